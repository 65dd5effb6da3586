/-
  Contracts: laws.toVis, toVisS, szVisS, eqVis, eqVisS: copies of structs, sizes, and whether two slices are equal.
-/
import Derived.Test.YtkmnjekpogbkkaaProg
import Derived.Test.YtkmnjekpogbkkaaPairs
import Derived.Deep.RegionWith
namespace Go.Proofs.Ytkmnjekpogbkkaa
open Go.RowKit
set_option linter.unusedVariables false

theorem infoVis : (Try.prog.info? 35).map (fun i => (i.zero, i.size, i.bytes)) = some (some (.agg #[.int .i64 0, .int .i64 0]), 2, 16) := by kernel_rfl

theorem run_makeVis (n : Nat) (hn : n ≤ 1048577) (w : World) : (Instr.makeSlice 28 (.int .i64 (n : Int)) (.int .i64 (n : Int))).run Try.prog w =
    .ok (.slice (some ⟨w.heap.size, 0, none⟩) n n) (w.alloc (.cells (zerosP n) 35)) := by
  obtain ⟨i0, hi, hz0, hz1, hz2⟩ := info_parts infoVis
  have hr := run_make (P := Try.prog) w 28 35 i0 _ Try.underlying28 hi hz0 .i64 .i64 n n (by omega) (by omega) (by rw [hz2]; omega) (by omega)
  simp only [Int.toNat_natCast] at hr
  rw [hr, hz1]
  congr 3
  apply Array.ext
  · simp [madeCells, zerosP_size]
  · intro i h1 h2
    rw [zerosP_at]
    have : i % 2 = 0 ∨ i % 2 = 1 := by omega
    rcases this with h | h <;> simp [madeCells, Value.cells, h]

def eqOneVis (x y x' y' : Int) : Bool := decide (x = x' ∧ y = y')
theorem eqVis_any (x y x' y' : Int) (w : World) :
    Calls Try.prog 53 #[.agg #[.int .i64 x, .int .i64 y], .agg #[.int .i64 x', .int .i64 y']] w fun e w' => e = .returned (.bool (eqOneVis x y x' y')) ∧ Below w.heap.size w w' := by
  have hB : ∀ o o' : Obj, Below w.heap.size w ((w.alloc o).alloc o') := fun o o' => ((Below.refl _ _).alloc (Nat.le_refl _) _).alloc (by simp) _
  have HB := Lib.hid hB
  clear hB
  by_cases hx : x = x'
  · subst hx
    by_cases hy : y = y'
    · subst hy
      have H : Hid (eqOneVis x y x y = true) := by simp [eqOneVis, Hid]
      go_enter Try.func53, Try.ntmps53
      go_wp2
      go_ret
      exact ⟨ret_bool H.out.symm, HB.out _ _⟩
    · have H : Hid (eqOneVis x y x y' = false) := by simp [eqOneVis, hy, Hid]
      have hE : (y != y') = true := by simp [hy]
      clear hy
      go_enter Try.func53, Try.ntmps53
      go_wp2
      go_ret
      exact ⟨ret_bool H.out.symm, HB.out _ _⟩
  · have H : Hid (eqOneVis x y x' y' = false) := by simp [eqOneVis, hx, Hid]
    have hE : (x != x') = true := by simp [hx]
    clear hx
    go_enter Try.func53, Try.ntmps53
    go_wp2
    go_ret
    exact ⟨ret_bool H.out.symm, HB.out _ _⟩

set_option maxHeartbeats 2000000 in
theorem eqVisS_any (A B : Option Addr) (n m c d : Nat) (ps qs : List (Int × Int)) (w : World) (hz : Prs w A n ps) (hy : Prs w B m qs) (hn : n ≤ 1048577) :
    Calls Try.prog 28 #[.slice A n c, .slice B m d] w fun e w' => e = .returned (.bool (eqP ps qs)) ∧ Below w.heap.size w w' := by
  by_cases hnm : n = m
  · subst hnm
    have HL := Lib.hid (hz.len.trans hy.len.symm)
    have HL' := Lib.hid hz.len
    go_enter Try.func28, Try.ntmps28
    go_wp2
    go_loopw [5] (fun i wr => ∃ k : Nat, k ≤ n ∧ i = .int .i64 k ∧ (∀ j, j < k → px ps j = px qs j ∧ py ps j = py qs j) ∧ Below w.heap.size w wr) (fun i _ => n - (intOf i).toNat)
    case atStart => exact ⟨0, Nat.zero_le _, rfl, fun j hj => absurd hj (by omega), Below.refl _ _⟩
    case round =>
      obtain ⟨k, hk, rfl, ha, hbl⟩ := hrel
      have HA := Lib.hid ha
      clear ha
      by_cases hlt : k < n
      · obtain ⟨b, off, rfl, hb, hc⟩ := (hz.below hbl).at_ (by omega)
        obtain ⟨b', off', rfl, hb', hc'⟩ := (hy.below hbl).at_ (by omega)
        obtain ⟨hc1, hc2⟩ := hc k hlt
        obtain ⟨hc3, hc4⟩ := hc' k hlt
        have HBl := Lib.hid (fun (wx : World) (h : Below wr.heap.size wr wx) => hbl.trans (h.mono hbl.size))
        have hk1 : (k : Int) < (n : Int) := by omega
        clear hc hc'
        cases he : eqOneVis (px ps k) (py ps k) (px qs k) (py qs k)
        · have HE : Hid (eqP ps qs = false) := by
            simp only [eqOneVis, decide_eq_false_iff_not] at he
            by_cases h1 : px ps k = px qs k
            · exact eqP_y (fun h2 => he ⟨h1, h2⟩)
            · exact eqP_x h1
          go_wp2
          go_region_with (go_at_call 53; refine (eqVis_any _ _ _ _ _).mono ?_; rintro e w1 ⟨rfl, hb1⟩)
          all_goals go_wp2
          all_goals go_ret
          all_goals exact ⟨ret_bool HE.out.symm, HBl.out _ ((below_drewN (Below.refl _ wr) 1).trans hb1)⟩
        · have hee : px ps k = px qs k ∧ py ps k = py qs k := by simpa [eqOneVis] using he
          have HE := Lib.hid hee
          clear hee
          go_wp2
          go_region_with (go_at_call 53; refine (eqVis_any _ _ _ _ _).mono ?_; rintro e w1 ⟨rfl, hb1⟩)
          all_goals
            go_wp2
            go_roundw
            case rel =>
              refine ⟨k + 1, by omega, by go_num, fun j hj => ?_, HBl.out _ ((below_drewN (Below.refl _ wr) 1).trans hb1)⟩
              rcases Nat.lt_or_ge j k with h | h
              · exact HA.out j h
              · obtain rfl : j = k := by omega
                exact HE.out
            case measure => simp [intOf]; omega
      · have H : Hid (eqP ps qs = true) := eqP_all HL.out fun j hj => HA.out j (by rw [HL'.out] at hj; omega)
        go_wp2
        go_ret
        exact ⟨ret_bool H.out.symm, hbl⟩
  · have H := Lib.hid (eqP_len (ps := ps) (qs := qs) (by rw [hz.len, hy.len]; exact hnm))
    have h1 : ((n : Int) != (m : Int)) = true := by simp; omega
    have h2 : (n != m) = true := by simp; omega
    go_enter Try.func28, Try.ntmps28
    go_wp2
    go_ret
    exact ⟨ret_bool H.out.symm, Below.refl _ _⟩

end Go.Proofs.Ytkmnjekpogbkkaa
