/-
  Contracts: spec.l91Has says whether a place stands in a list; spec.l91Array draws a list of places in new memory.
-/
import Derived.Test.YtkmnjekpogbkkaaReader
import Derived.Test.YtkmnjekpogbkkaaNewP
import Derived.Test.YtkmnjekpogbkkaaAntS
import Derived.Test.YtkmnjekpogbkkaaAntA
import Derived.Test.YtkmnjekpogbkkaaAntF
import Derived.Deep.RegionWith
namespace Go.Proofs.Ytkmnjekpogbkkaa
open Go.RowKit
set_option linter.unusedVariables false

theorem Rdr.drewA {w : World} {g p : Nat} (h : Rdr w g p) : Rdr w.drew g p := h
theorem grown_undrewA {a w : World} {row : Option Nat} (h : a.drew.grownBy w row) : a.grownBy w row := ⟨h.os, h.tape, h.output, h.size, h.block⟩
theorem grown_drewNA {a w : World} {row : Option Nat} (h : a.grownBy w row) (n : Nat) : a.grownBy (w.drewN n) row := ⟨h.os, h.tape, h.output, h.size, h.block⟩
theorem cell_kept_litA {W w4 : World} {g i : Nat} {cs : Array Value} {T : TypeId} {v : Value} (hG : (W.alloc (.cells cs T)).grownBy w4 (some g)) (hg : g < W.heap.size) (hv : cs[i]? = some v) :
    w4.cell? ⟨W.heap.size, i, none⟩ = some v := by
  have hh : w4.heap[W.heap.size]? = some (.cells cs T (0, 0)) := by
    rw [hG.block W.heap.size (by simp) (by simp; omega)]
    exact heap_alloc_new W _
  rw [cell_of_row w4 _ i _ _ _ hh]; exact hv
theorem cell_new_litA (W : World) {i : Nat} {cs : Array Value} {T : TypeId} {v : Value} (hv : cs[i]? = some v) : (W.alloc (.cells cs T)).cell? ⟨W.heap.size, i, none⟩ = some v := by
  rw [cell_of_row _ _ i _ _ _ (heap_alloc_new W _)]; exact hv

theorem below_drewA {B : Nat} {a w : World} (h : Below B a w) (n : Nat) : Below B a (w.drewN n) := ⟨h.os, h.tape, h.output, h.size, h.block⟩

set_option maxHeartbeats 2000000 in
theorem l91Has_any (A : Option Addr) (n c : Nat) (ps : List (Int × Int)) (x y : Int) (w : World) (hz : Prs w A n ps) (hn : n ≤ 1048577) :
    Calls Try.prog 55 #[.slice A n c, .agg #[.int .i64 x, .int .i64 y]] w fun e w' => e = .returned (.bool (hasP ps x y)) ∧ Below w.heap.size w w' := by
  have hnq := eqlAnt
  have hgd := grdAnt
  have HL := Lib.hid hz.len
  have hb0 := below_alloc w (.cells #[.int .i64 x, .int .i64 y] 25)
  obtain ⟨q0, q1, q2⟩ := Box.new w 25 x y
  have hz0 := hz.below hb0
  go_enter Try.func55, Try.ntmps55
  go_wp2
  generalize w.alloc (.cells #[.int .i64 x, .int .i64 y] 25) = W at hb0 q0 q1 q2 hz0 ⊢
  go_loopw [5] (fun i wr => ∃ k : Nat, k ≤ n ∧ i = .int .i64 k ∧ (∀ j, j < k → ¬ (px ps j = x ∧ py ps j = y)) ∧ ∃ q, wr = W.drewN q) (fun i _ => n - (intOf i).toNat)
  case atStart => exact ⟨0, Nat.zero_le _, rfl, fun j hj => absurd hj (by omega), 0, rfl⟩
  case round =>
    obtain ⟨k, hk, rfl, ha, q, rfl⟩ := hrel
    have HA := Lib.hid ha
    clear ha
    by_cases hlt : k < n
    · obtain ⟨b, off, rfl, hb, hc⟩ := hz0.at_ (by omega)
      obtain ⟨hc1, hc2⟩ := hc k hlt
      clear hc
      cases he : eqQAnt (px ps k) (py ps k) x y
      · have HE : Hid (¬ (px ps k = x ∧ py ps k = y)) := eqQAnt_f he
        go_wp2
        go_quiet (fail)
        go_wp2
        go_roundw
        case rel =>
          refine ⟨k + 1, by omega, by go_num, fun j hj => ?_, _, rfl⟩
          rcases Nat.lt_or_ge j k with h | h
          · exact HA.out j h
          · obtain rfl : j = k := by omega
            exact HE.out
        case measure => simp [intOf]; omega
      · have HE : Hid (hasP ps x y = true) := hasP_true.2 ⟨k, by rw [HL.out]; exact hlt, eqQAnt_t he⟩
        go_wp2
        go_quiet (fail)
        go_wp2
        go_ret
        exact ⟨ret_bool HE.out.symm, below_drewA (below_drewA hb0 _) _⟩
    · have H : Hid (hasP ps x y = false) := hasP_false.2 fun j hj => HA.out j (by rw [HL.out] at hj; omega)
      go_wp2
      go_ret
      exact ⟨ret_bool H.out.symm, below_drewA hb0 _⟩

/-- Places have been drawn: one at least, in new memory; the reader has moved on. -/
def ArrPost (w : World) (g p : Nat) (e : Ending) (w' : World) : Prop :=
  ∃ A n c ps p', e = .returned (.slice A n c) ∧ NewP w' w.heap.size A n c ps ∧ 1 ≤ n ∧ n ≤ 5 ∧ Rdr w' g p' ∧ p' ≤ p + 15 ∧ w.grownBy w' (some g)

theorem one_at {m : Int} (h0 : 0 ≤ m) (h1 : m < 3) : ∃ v : Int, (#[Value.int .i64 1, .int .i64 1, .int .i64 7] : Array Value)[m.toNat]? = some (.int .i64 v) ∧ (v = 1 ∨ v = 7) := by
  obtain rfl | rfl | rfl : m = 0 ∨ m = 1 ∨ m = 2 := by omega
  · exact ⟨1, rfl, .inl rfl⟩
  · exact ⟨1, rfl, .inl rfl⟩
  · exact ⟨7, rfl, .inr rfl⟩

set_option maxHeartbeats 8000000 in
theorem l91Array_any (g p : Nat) (w : World) (h : Rdr w g p) (hp : p ≤ 50000) :
    Calls Try.prog 34 #[.pointer (some ⟨g, 0, none⟩)] w (ArrPost w g p) := by
  have hlt := h.lt
  have hb0 := below_alloc w (.cells #[] 25)
  have hO0 := OwnP.lit0 25 w (Nat.le_refl _)
  have hR0 := h.alloc (.cells #[] 25)
  have hG0 : w.grownBy (w.alloc (.cells #[] 25)) (some g) := grown_belowP (World.grownBy.refl w _) hb0
  go_enter Try.func34, Try.ntmps34
  go_wp2_with fail
  refine (pick_any g p _ _ hR0 (by omega) (by omega) (by omega)).mono ?_
  rintro e w1 ⟨x, hx0, hx1, rfl, hR1, hG1⟩
  obtain ⟨X, rfl⟩ := Int.eq_ofNat_of_zero_le hx0
  have hO1 := hO0.off hG1 (fun k e => by cases e; exact hlt)
  have hG01 := hG0.trans hG1
  go_wp2_with fail
  refine (pick_any g (p + 1) _ _ (hR1.alloc _) (by omega) (by omega) (by omega)).mono ?_
  rintro e w2 ⟨m, hm0, hm1, rfl, hR2, hG2⟩
  obtain ⟨v, hv, hvv⟩ := one_at hm0 hm1
  have hcell := cell_kept_litA hG2 hR1.lt hv
  have hb1 := below_alloc w1 (.cells #[.int .i64 1, .int .i64 1, .int .i64 7] 3)
  have hO2 := (hO1.below hb1).off hG2 (fun k e => by cases e; exact hlt)
  have hG02 := (grown_belowP hG01 hb1).trans hG2
  clear hb0 hO0 hR0 hG0 hR1 hG1 hO1 hG01 hb1 hG2 h
  rcases hvv with rfl | rfl
  ·
    go_wp2
    go_loopw [3, 6] (fun v i wr => ∃ (k n : Nat) (A : Option Addr) (c : Nat) (ps : List (Int × Int)), k ≤ 2 + X ∧ i = .int .i64 k ∧ v = .slice A n c ∧ n ≤ k ∧ OwnP 25 wr w.heap.size A n c ps ∧ Rdr wr g (p + 2 + 2 * k) ∧ w.grownBy wr (some g)) (fun _ i _ => 2 + X - (intOf i).toNat)
    case atStart => exact ⟨0, 0, _, _, [], Nat.zero_le _, rfl, rfl, Nat.le_refl _, hO2, hR2, hG02⟩
    case round =>
      obtain ⟨k, n, A, c, ps, hk, rfl, rfl, hnk, hO, hR, hG⟩ := hrel
      clear hO2 hR2 hG02 hcell hv
      by_cases hkM : k < 2 + X
      · have hki : (k : Int) < 2 + (X : Int) := by omega
        go_wp2_with fail
        refine (pick_any g (p + 2 + 2 * k) _ _ hR (by omega) (by omega) (by omega)).mono ?_
        rintro e w3 ⟨m1, hm10, hm11, rfl, hR3, hG3⟩
        have hO3 := hO.off hG3 (fun k e => by cases e; exact hlt)
        go_wp2_with fail
        refine (pick_any g (p + 2 + 2 * k + 1) _ _ hR3 (by omega) (by omega) (by omega)).mono ?_
        rintro e w4 ⟨m2, hm20, hm21, rfl, hR4, hG4⟩
        have hO4 := hO3.off hG4 (fun k e => by cases e; exact hlt)
        have hG34 := (hG.trans hG3).trans hG4
        have hba := below_alloc w4 (.cells #[.int .i64 (m1 - 2), .int .i64 (m2 - 1)] 25)
        have hbx := Box.new w4 25 (m1 - 2) (m2 - 1)
        have hO5 := hO4.below hba
        have hR5 := hR4.below hba
        have hG5 := grown_belowP hG34 hba
        have q1 := hbx.2.1
        have q2 := hbx.2.2
        cases hh : hasP ps (m1 - 2) (m2 - 1)
        · have HH := Lib.hid hh
          clear hh
          go_wp2_with fail
          refine (l91Has_any _ _ _ ps _ _ _ hO5.prs (by omega)).mono ?_
          rintro e w6 ⟨he, hb6⟩
          rw [HH.out] at he
          subst he
          clear q1 q2
          have q1 := (hbx.below hb6).2.1
          have q2 := (hbx.below hb6).2.2
          have hO6 := hO5.below hb6
          have hR6 := hR5.below hb6
          have hG6 := grown_belowP hG5 hb6
          go_wp2_with (at_builtin; refine wpList_append1Ant rfl (.tmp 37) (.tmp 39) rfl w6 w.heap.size A n c ps (m1 - 2) (m2 - 1) w6.heap.size rfl rfl rfl hO6 (by omega) hG6.size ?_; intro A7 c7 w7 hO7 hG7)
          have hR7 := hR6.off hG7 (fun j e => by have := (hO6.lt j e).1; omega)
          have hG7' := grown_ownP hG6 hG7 (fun j e => (hO6.lt j e).1)
          go_roundw
          case rel => exact ⟨k + 1, n + 1, A7, c7, _, by omega, by go_num, rfl, by omega, hO7, (by rw [show p + 2 + 2 * (k + 1) = p + 2 + 2 * k + 1 + 1 by omega]; exact hR7), hG7'⟩
          case measure => simp [intOf]; omega
        · have HH := Lib.hid hh
          clear hh
          go_wp2_with fail
          refine (l91Has_any _ _ _ ps _ _ _ hO5.prs (by omega)).mono ?_
          rintro e w6 ⟨he, hb6⟩
          rw [HH.out] at he
          subst he
          go_wp2
          go_roundw
          case rel => exact ⟨k + 1, n, A, c, ps, by omega, by go_num, rfl, by omega, hO5.below hb6, (by rw [show p + 2 + 2 * (k + 1) = p + 2 + 2 * k + 1 + 1 by omega]; exact hR5.below hb6), grown_belowP hG5 hb6⟩
          case measure => simp [intOf]; omega
      · have hkx : k = 2 + X := by omega
        have hki : 2 + (X : Int) ≤ (k : Int) := by omega
        clear hkM
        by_cases hn2 : n < 2
        · go_wp2_with fail
          refine (pick_any g (p + 2 + 2 * k) _ _ hR (by omega) (by omega) (by omega)).mono ?_
          rintro e w3 ⟨m1, hm10, hm11, rfl, hR3, hG3⟩
          go_wp2_with fail
          refine (pick_any g (p + 2 + 2 * k + 1) _ _ hR3 (by omega) (by omega) (by omega)).mono ?_
          rintro e w4 ⟨m2, hm20, hm21, rfl, hR4, hG4⟩
          have hs4 : w.heap.size ≤ w4.heap.size := ((hG.trans hG3).trans hG4).size
          have hOL : OwnP 25 (w4.alloc (.cells #[.int .i64 0, .int .i64 0, .int .i64 (1 + m1), .int .i64 m2, .int .i64 5, .int .i64 1] 25)) w.heap.size (some ⟨w4.heap.size, 0, none⟩) 3 3 [(0, 0), (1 + m1, m2), (5, 1)] :=
            World.ownsRow_lit w4 #[.int .i64 0, .int .i64 0, .int .i64 (1 + m1), .int .i64 m2, .int .i64 5, .int .i64 1] 3 hs4 (by simp [maxLen]) rfl
          have hba := below_alloc w4 (.cells #[.int .i64 0, .int .i64 0, .int .i64 (1 + m1), .int .i64 m2, .int .i64 5, .int .i64 1] 25)
          have hRL := hR4.below hba
          have hGL := grown_belowP ((hG.trans hG3).trans hG4) hba
          go_wp2_with fail
          refine (pick_any g (p + 2 + 2 * k + 1 + 1) _ _ hRL (by omega) (by omega) (by omega)).mono ?_
          rintro e w8 ⟨m5, hm50, hm51, rfl, hR8, hG8⟩
          have hO8 := hOL.off hG8 (fun k e => by cases e; exact hlt)
          have hGg := hGL.trans hG8
          obtain ⟨g', hA', hg1, hg2⟩ := hO8.at0 (by omega)
          injection hA' with hA'
          injection hA' with hA' hA2
          subst hA'
          clear hA2
          have hcap8 := hO8.cap
          have hn8 : 1 ≤ w8.heap.size + 1 := by omega
          clear hR hO hG
          by_cases e0 : m5 = 0
          · subst e0
            obtain ⟨b9, off9, e9, hc9⟩ := hO8.prs.2 (by omega)
            injection e9 with e9
            injection e9 with e91 e92
            subst e91 e92
            obtain ⟨d1, d2⟩ := hc9 1 (by omega)
            obtain ⟨d3, d4⟩ := hc9 0 (by omega)
            simp only [Nat.zero_add, Nat.zero_mul, Nat.one_mul] at d1 d2 d3 d4
            have f1 : w8.frozen? ⟨w4.heap.size, 0, none⟩ = false := World.ownsRow.frozenAt hO8 0
            have f2 : w8.frozen? ⟨w4.heap.size, 1, none⟩ = false := World.ownsRow.frozenAt hO8 1
            have HS := Lib.hid (hO8.first2 (by omega) (px [(0, 0), (1 + m1, m2), (5, 1)] 1) (py [(0, 0), (1 + m1, m2), (5, 1)] 1))
            have hn0 : (1 : Int) < (3 : Int) := by omega
            clear hc9
            go_wp2
            go_ret
            exact ⟨_, _, _, _, _, rfl, HS.out.1.newP, by omega, by omega, hR8.off HS.out.2 (fun k e => by cases e; omega), by omega, grown_ownP hGg HS.out.2 (fun k e => by cases e; exact hg2)⟩
          · by_cases e1 : m5 = 1
            · subst e1
              obtain ⟨b9, off9, e9, hc9⟩ := hO8.prs.2 (by omega)
              injection e9 with e9
              injection e9 with e91 e92
              subst e91 e92
              obtain ⟨d3, d4⟩ := hc9 0 (by omega)
              simp only [Nat.zero_add, Nat.zero_mul] at d3 d4
              have f1 : w8.frozen? ⟨w4.heap.size, 0, none⟩ = false := World.ownsRow.frozenAt hO8 0
              have HS := Lib.hid (hO8.first1 (by omega) 1001)
              have hn0 : (1 : Int) < (3 : Int) := by omega
              clear hc9
              go_wp2
              go_ret
              exact ⟨_, _, _, _, _, rfl, HS.out.1.newP, by omega, by omega, hR8.off HS.out.2 (fun k e => by cases e; omega), by omega, grown_ownP hGg HS.out.2 (fun k e => by cases e; exact hg2)⟩
            · have e0' : (m5 == 0) = false := by simp [e0]
              have e1' : (m5 == 1) = false := by simp [e1]
              by_cases e2 : m5 = 2
              · subst e2
                have hc1 : (1 : Int) ≤ (3 : Int) := by omega
                clear e0 e1
                go_wp2
                go_ret
                exact ⟨_, _, _, _, _, rfl, hO8.newP.cut (k := 1) (by omega), by omega, by omega, hR8, by omega, hGg⟩
              · have e2' : (m5 == 2) = false := by simp [e2]
                clear e0 e1 e2
                go_wp2
                go_ret
                exact ⟨_, _, _, _, _, rfl, hO8.newP, by omega, by omega, hR8, by omega, hGg⟩
        · have hn2' : 2 ≤ n := by omega
          clear hn2
          go_wp2_with fail
          refine (pick_any g (p + 2 + 2 * k) _ _ hR (by omega) (by omega) (by omega)).mono ?_
          rintro e w8 ⟨m5, hm50, hm51, rfl, hR8, hG8⟩
          have hO8 := hO.off hG8 (fun k e => by cases e; exact hlt)
          have hGg := hG.trans hG8
          obtain ⟨g', rfl, hg1, hg2⟩ := hO8.at0 (by omega)
          have hcap8 := hO8.cap
          have hn8 : 1 ≤ n := by omega
          clear hR hG
          by_cases e0 : m5 = 0
          · subst e0
            obtain ⟨b9, off9, e9, hc9⟩ := hO8.prs.2 (by omega)
            injection e9 with e9
            injection e9 with e91 e92
            subst e91 e92
            obtain ⟨d1, d2⟩ := hc9 1 (by omega)
            obtain ⟨d3, d4⟩ := hc9 0 (by omega)
            simp only [Nat.zero_add, Nat.zero_mul, Nat.one_mul] at d1 d2 d3 d4
            have f1 : w8.frozen? ⟨g', 0, none⟩ = false := World.ownsRow.frozenAt hO8 0
            have f2 : w8.frozen? ⟨g', 1, none⟩ = false := World.ownsRow.frozenAt hO8 1
            have HS := Lib.hid (hO8.first2 (by omega) (px ps 1) (py ps 1))
            have hn0 : (1 : Int) < (n : Int) := by omega
            clear hc9
            go_wp2
            go_ret
            exact ⟨_, _, _, _, _, rfl, HS.out.1.newP, by omega, by omega, hR8.off HS.out.2 (fun k e => by cases e; omega), by omega, grown_ownP hGg HS.out.2 (fun k e => by cases e; exact hg2)⟩
          · by_cases e1 : m5 = 1
            · subst e1
              obtain ⟨b9, off9, e9, hc9⟩ := hO8.prs.2 (by omega)
              injection e9 with e9
              injection e9 with e91 e92
              subst e91 e92
              obtain ⟨d3, d4⟩ := hc9 0 (by omega)
              simp only [Nat.zero_add, Nat.zero_mul] at d3 d4
              have f1 : w8.frozen? ⟨g', 0, none⟩ = false := World.ownsRow.frozenAt hO8 0
              have HS := Lib.hid (hO8.first1 (by omega) 1001)
              have hn0 : (1 : Int) < (n : Int) := by omega
              clear hc9
              go_wp2
              go_ret
              exact ⟨_, _, _, _, _, rfl, HS.out.1.newP, by omega, by omega, hR8.off HS.out.2 (fun k e => by cases e; omega), by omega, grown_ownP hGg HS.out.2 (fun k e => by cases e; exact hg2)⟩
            · have e0' : (m5 == 0) = false := by simp [e0]
              have e1' : (m5 == 1) = false := by simp [e1]
              by_cases e2 : m5 = 2
              · subst e2
                have hc1 : (1 : Int) ≤ (c : Int) := by omega
                clear e0 e1
                go_wp2
                go_ret
                exact ⟨_, _, _, _, _, rfl, hO8.newP.cut (k := 1) (by omega), by omega, by omega, hR8, by omega, hGg⟩
              · have e2' : (m5 == 2) = false := by simp [e2]
                clear e0 e1 e2
                go_wp2
                go_ret
                exact ⟨_, _, _, _, _, rfl, hO8.newP, by omega, by omega, hR8, by omega, hGg⟩
  ·
    go_wp2
    go_loopw [3, 6] (fun v i wr => ∃ (k n : Nat) (A : Option Addr) (c : Nat) (ps : List (Int × Int)), k ≤ 2 + X ∧ i = .int .i64 k ∧ v = .slice A n c ∧ n ≤ k ∧ OwnP 25 wr w.heap.size A n c ps ∧ Rdr wr g (p + 2 + 2 * k) ∧ w.grownBy wr (some g)) (fun _ i _ => 2 + X - (intOf i).toNat)
    case atStart => exact ⟨0, 0, _, _, [], Nat.zero_le _, rfl, rfl, Nat.le_refl _, hO2, hR2, hG02⟩
    case round =>
      obtain ⟨k, n, A, c, ps, hk, rfl, rfl, hnk, hO, hR, hG⟩ := hrel
      clear hO2 hR2 hG02 hcell hv
      by_cases hkM : k < 2 + X
      · have hki : (k : Int) < 2 + (X : Int) := by omega
        go_wp2_with fail
        refine (pick_any g (p + 2 + 2 * k) _ _ hR (by omega) (by omega) (by omega)).mono ?_
        rintro e w3 ⟨m1, hm10, hm11, rfl, hR3, hG3⟩
        have hO3 := hO.off hG3 (fun k e => by cases e; exact hlt)
        go_wp2_with fail
        refine (pick_any g (p + 2 + 2 * k + 1) _ _ hR3 (by omega) (by omega) (by omega)).mono ?_
        rintro e w4 ⟨m2, hm20, hm21, rfl, hR4, hG4⟩
        have hO4 := hO3.off hG4 (fun k e => by cases e; exact hlt)
        have hG34 := (hG.trans hG3).trans hG4
        have hba := below_alloc w4 (.cells #[.int .i64 (7 * (m1 - 2)), .int .i64 (7 * (m2 - 1))] 25)
        have hbx := Box.new w4 25 (7 * (m1 - 2)) (7 * (m2 - 1))
        have hO5 := hO4.below hba
        have hR5 := hR4.below hba
        have hG5 := grown_belowP hG34 hba
        have q1 := hbx.2.1
        have q2 := hbx.2.2
        cases hh : hasP ps (7 * (m1 - 2)) (7 * (m2 - 1))
        · have HH := Lib.hid hh
          clear hh
          go_wp2_with fail
          refine (l91Has_any _ _ _ ps _ _ _ hO5.prs (by omega)).mono ?_
          rintro e w6 ⟨he, hb6⟩
          rw [HH.out] at he
          subst he
          clear q1 q2
          have q1 := (hbx.below hb6).2.1
          have q2 := (hbx.below hb6).2.2
          have hO6 := hO5.below hb6
          have hR6 := hR5.below hb6
          have hG6 := grown_belowP hG5 hb6
          go_wp2_with (at_builtin; refine wpList_append1Ant rfl (.tmp 37) (.tmp 39) rfl w6 w.heap.size A n c ps (7 * (m1 - 2)) (7 * (m2 - 1)) w6.heap.size rfl rfl rfl hO6 (by omega) hG6.size ?_; intro A7 c7 w7 hO7 hG7)
          have hR7 := hR6.off hG7 (fun j e => by have := (hO6.lt j e).1; omega)
          have hG7' := grown_ownP hG6 hG7 (fun j e => (hO6.lt j e).1)
          go_roundw
          case rel => exact ⟨k + 1, n + 1, A7, c7, _, by omega, by go_num, rfl, by omega, hO7, (by rw [show p + 2 + 2 * (k + 1) = p + 2 + 2 * k + 1 + 1 by omega]; exact hR7), hG7'⟩
          case measure => simp [intOf]; omega
        · have HH := Lib.hid hh
          clear hh
          go_wp2_with fail
          refine (l91Has_any _ _ _ ps _ _ _ hO5.prs (by omega)).mono ?_
          rintro e w6 ⟨he, hb6⟩
          rw [HH.out] at he
          subst he
          go_wp2
          go_roundw
          case rel => exact ⟨k + 1, n, A, c, ps, by omega, by go_num, rfl, by omega, hO5.below hb6, (by rw [show p + 2 + 2 * (k + 1) = p + 2 + 2 * k + 1 + 1 by omega]; exact hR5.below hb6), grown_belowP hG5 hb6⟩
          case measure => simp [intOf]; omega
      · have hkx : k = 2 + X := by omega
        have hki : 2 + (X : Int) ≤ (k : Int) := by omega
        clear hkM
        by_cases hn2 : n < 2
        · go_wp2_with fail
          refine (pick_any g (p + 2 + 2 * k) _ _ hR (by omega) (by omega) (by omega)).mono ?_
          rintro e w3 ⟨m1, hm10, hm11, rfl, hR3, hG3⟩
          go_wp2_with fail
          refine (pick_any g (p + 2 + 2 * k + 1) _ _ hR3 (by omega) (by omega) (by omega)).mono ?_
          rintro e w4 ⟨m2, hm20, hm21, rfl, hR4, hG4⟩
          have hs4 : w.heap.size ≤ w4.heap.size := ((hG.trans hG3).trans hG4).size
          have hOL : OwnP 25 (w4.alloc (.cells #[.int .i64 0, .int .i64 0, .int .i64 (1 + m1), .int .i64 m2, .int .i64 5, .int .i64 1] 25)) w.heap.size (some ⟨w4.heap.size, 0, none⟩) 3 3 [(0, 0), (1 + m1, m2), (5, 1)] :=
            World.ownsRow_lit w4 #[.int .i64 0, .int .i64 0, .int .i64 (1 + m1), .int .i64 m2, .int .i64 5, .int .i64 1] 3 hs4 (by simp [maxLen]) rfl
          have hba := below_alloc w4 (.cells #[.int .i64 0, .int .i64 0, .int .i64 (1 + m1), .int .i64 m2, .int .i64 5, .int .i64 1] 25)
          have hRL := hR4.below hba
          have hGL := grown_belowP ((hG.trans hG3).trans hG4) hba
          go_wp2_with fail
          refine (pick_any g (p + 2 + 2 * k + 1 + 1) _ _ hRL (by omega) (by omega) (by omega)).mono ?_
          rintro e w8 ⟨m5, hm50, hm51, rfl, hR8, hG8⟩
          have hO8 := hOL.off hG8 (fun k e => by cases e; exact hlt)
          have hGg := hGL.trans hG8
          obtain ⟨g', hA', hg1, hg2⟩ := hO8.at0 (by omega)
          injection hA' with hA'
          injection hA' with hA' hA2
          subst hA'
          clear hA2
          have hcap8 := hO8.cap
          have hn8 : 1 ≤ w8.heap.size + 1 := by omega
          clear hR hO hG
          by_cases e0 : m5 = 0
          · subst e0
            obtain ⟨b9, off9, e9, hc9⟩ := hO8.prs.2 (by omega)
            injection e9 with e9
            injection e9 with e91 e92
            subst e91 e92
            obtain ⟨d1, d2⟩ := hc9 1 (by omega)
            obtain ⟨d3, d4⟩ := hc9 0 (by omega)
            simp only [Nat.zero_add, Nat.zero_mul, Nat.one_mul] at d1 d2 d3 d4
            have f1 : w8.frozen? ⟨w4.heap.size, 0, none⟩ = false := World.ownsRow.frozenAt hO8 0
            have f2 : w8.frozen? ⟨w4.heap.size, 1, none⟩ = false := World.ownsRow.frozenAt hO8 1
            have HS := Lib.hid (hO8.first2 (by omega) (px [(0, 0), (1 + m1, m2), (5, 1)] 1) (py [(0, 0), (1 + m1, m2), (5, 1)] 1))
            have hn0 : (1 : Int) < (3 : Int) := by omega
            clear hc9
            go_wp2
            go_ret
            exact ⟨_, _, _, _, _, rfl, HS.out.1.newP, by omega, by omega, hR8.off HS.out.2 (fun k e => by cases e; omega), by omega, grown_ownP hGg HS.out.2 (fun k e => by cases e; exact hg2)⟩
          · by_cases e1 : m5 = 1
            · subst e1
              obtain ⟨b9, off9, e9, hc9⟩ := hO8.prs.2 (by omega)
              injection e9 with e9
              injection e9 with e91 e92
              subst e91 e92
              obtain ⟨d3, d4⟩ := hc9 0 (by omega)
              simp only [Nat.zero_add, Nat.zero_mul] at d3 d4
              have f1 : w8.frozen? ⟨w4.heap.size, 0, none⟩ = false := World.ownsRow.frozenAt hO8 0
              have HS := Lib.hid (hO8.first1 (by omega) 1001)
              have hn0 : (1 : Int) < (3 : Int) := by omega
              clear hc9
              go_wp2
              go_ret
              exact ⟨_, _, _, _, _, rfl, HS.out.1.newP, by omega, by omega, hR8.off HS.out.2 (fun k e => by cases e; omega), by omega, grown_ownP hGg HS.out.2 (fun k e => by cases e; exact hg2)⟩
            · have e0' : (m5 == 0) = false := by simp [e0]
              have e1' : (m5 == 1) = false := by simp [e1]
              by_cases e2 : m5 = 2
              · subst e2
                have hc1 : (1 : Int) ≤ (3 : Int) := by omega
                clear e0 e1
                go_wp2
                go_ret
                exact ⟨_, _, _, _, _, rfl, hO8.newP.cut (k := 1) (by omega), by omega, by omega, hR8, by omega, hGg⟩
              · have e2' : (m5 == 2) = false := by simp [e2]
                clear e0 e1 e2
                go_wp2
                go_ret
                exact ⟨_, _, _, _, _, rfl, hO8.newP, by omega, by omega, hR8, by omega, hGg⟩
        · have hn2' : 2 ≤ n := by omega
          clear hn2
          go_wp2_with fail
          refine (pick_any g (p + 2 + 2 * k) _ _ hR (by omega) (by omega) (by omega)).mono ?_
          rintro e w8 ⟨m5, hm50, hm51, rfl, hR8, hG8⟩
          have hO8 := hO.off hG8 (fun k e => by cases e; exact hlt)
          have hGg := hG.trans hG8
          obtain ⟨g', rfl, hg1, hg2⟩ := hO8.at0 (by omega)
          have hcap8 := hO8.cap
          have hn8 : 1 ≤ n := by omega
          clear hR hG
          by_cases e0 : m5 = 0
          · subst e0
            obtain ⟨b9, off9, e9, hc9⟩ := hO8.prs.2 (by omega)
            injection e9 with e9
            injection e9 with e91 e92
            subst e91 e92
            obtain ⟨d1, d2⟩ := hc9 1 (by omega)
            obtain ⟨d3, d4⟩ := hc9 0 (by omega)
            simp only [Nat.zero_add, Nat.zero_mul, Nat.one_mul] at d1 d2 d3 d4
            have f1 : w8.frozen? ⟨g', 0, none⟩ = false := World.ownsRow.frozenAt hO8 0
            have f2 : w8.frozen? ⟨g', 1, none⟩ = false := World.ownsRow.frozenAt hO8 1
            have HS := Lib.hid (hO8.first2 (by omega) (px ps 1) (py ps 1))
            have hn0 : (1 : Int) < (n : Int) := by omega
            clear hc9
            go_wp2
            go_ret
            exact ⟨_, _, _, _, _, rfl, HS.out.1.newP, by omega, by omega, hR8.off HS.out.2 (fun k e => by cases e; omega), by omega, grown_ownP hGg HS.out.2 (fun k e => by cases e; exact hg2)⟩
          · by_cases e1 : m5 = 1
            · subst e1
              obtain ⟨b9, off9, e9, hc9⟩ := hO8.prs.2 (by omega)
              injection e9 with e9
              injection e9 with e91 e92
              subst e91 e92
              obtain ⟨d3, d4⟩ := hc9 0 (by omega)
              simp only [Nat.zero_add, Nat.zero_mul] at d3 d4
              have f1 : w8.frozen? ⟨g', 0, none⟩ = false := World.ownsRow.frozenAt hO8 0
              have HS := Lib.hid (hO8.first1 (by omega) 1001)
              have hn0 : (1 : Int) < (n : Int) := by omega
              clear hc9
              go_wp2
              go_ret
              exact ⟨_, _, _, _, _, rfl, HS.out.1.newP, by omega, by omega, hR8.off HS.out.2 (fun k e => by cases e; omega), by omega, grown_ownP hGg HS.out.2 (fun k e => by cases e; exact hg2)⟩
            · have e0' : (m5 == 0) = false := by simp [e0]
              have e1' : (m5 == 1) = false := by simp [e1]
              by_cases e2 : m5 = 2
              · subst e2
                have hc1 : (1 : Int) ≤ (c : Int) := by omega
                clear e0 e1
                go_wp2
                go_ret
                exact ⟨_, _, _, _, _, rfl, hO8.newP.cut (k := 1) (by omega), by omega, by omega, hR8, by omega, hGg⟩
              · have e2' : (m5 == 2) = false := by simp [e2]
                clear e0 e1 e2
                go_wp2
                go_ret
                exact ⟨_, _, _, _, _, rfl, hO8.newP, by omega, by omega, hR8, by omega, hGg⟩

end Go.Proofs.Ytkmnjekpogbkkaa
