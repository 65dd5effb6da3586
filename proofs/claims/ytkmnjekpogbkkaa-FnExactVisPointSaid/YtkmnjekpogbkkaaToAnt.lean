/-
  Contracts: laws.toAnt, toAntS, szAntS, eqAnt, eqAntS: copies of structs, sizes, and whether two slices are equal.
-/
import Derived.Test.YtkmnjekpogbkkaaProg
import Derived.Test.YtkmnjekpogbkkaaPairs
import Derived.Deep.RegionWith
namespace Go.Proofs.Ytkmnjekpogbkkaa
open Go.RowKit
set_option linter.unusedVariables false

theorem infoAnt : (Try.prog.info? 25).map (fun i => (i.zero, i.size, i.bytes)) = some (some (.agg #[.int .i64 0, .int .i64 0]), 2, 16) := by kernel_rfl

theorem toAnt_any (x y : Int) (w : World) :
    Calls Try.prog 27 #[.agg #[.int .i64 x, .int .i64 y]] w fun e w' => e = .returned (.agg #[.int .i64 x, .int .i64 y]) ∧ Below w.heap.size w w' := by
  go_enter Try.func27, Try.ntmps27
  go_wp2
  exact bodyPost_ret (v := .agg #[.int .i64 x, .int .i64 y]) (by simp [results, Try.results27, go_sem]) rfl ⟨rfl, (((Below.refl _ _).alloc (Nat.le_refl _) _).alloc (by simp) _).alloc (by simp; omega) _⟩

theorem szAntS_any (A : Option Addr) (n c : Nat) (w : World) (hn : n ≤ 1048576) :
    Calls Try.prog 25 #[.slice A n c, .int .i64 1048576] w fun e w' => e = .returned (.int .i64 (1048576 - (n : Int))) ∧ w = w' := by
  go_enter Try.func25, Try.ntmps25
  go_wp2
  go_ret
  exact ⟨rfl, rfl⟩
theorem szAntS_big (A : Option Addr) (n c : Nat) (w : World) (hn : 1048576 < n) (hl : n ≤ 9223372036854775807) :
    Calls Try.prog 25 #[.slice A n c, .int .i64 1048576] w fun e w' => e = .returned (.int .i64 (-1)) ∧ w = w' := by
  go_enter Try.func25, Try.ntmps25
  go_wp2
  go_ret
  exact ⟨rfl, rfl⟩

theorem run_makeAnt (n : Nat) (hn : n ≤ 1048577) (w : World) : (Instr.makeSlice 23 (.int .i64 (n : Int)) (.int .i64 (n : Int))).run Try.prog w =
    .ok (.slice (some ⟨w.heap.size, 0, none⟩) n n) (w.alloc (.cells (zerosP n) 25)) := by
  obtain ⟨i0, hi, hz0, hz1, hz2⟩ := info_parts infoAnt
  have hr := run_make (P := Try.prog) w 23 25 i0 _ Try.underlying23 hi hz0 .i64 .i64 n n (by omega) (by omega) (by rw [hz2]; omega) (by omega)
  simp only [Int.toNat_natCast] at hr
  rw [hr, hz1]
  congr 3
  apply Array.ext
  · simp [madeCells, zerosP_size]
  · intro i h1 h2
    rw [zerosP_at]
    have : i % 2 = 0 ∨ i % 2 = 1 := by omega
    rcases this with h | h <;> simp [madeCells, Value.cells, h]

set_option maxHeartbeats 1000000 in
theorem toAntS_any (A : Option Addr) (n c : Nat) (ps : List (Int × Int)) (w : World) (hz : Prs w A n ps) (hn : n ≤ 1048576) :
    Calls Try.prog 26 #[.slice A n c] w (RetP 25 w ps) := by
  have HL := Lib.hid hz.len
  have hmk := run_makeAnt n (by omega)
  have hO0 : OwnP 25 (w.alloc (.cells (zerosP n) 25)) w.heap.size (some ⟨w.heap.size, 0, none⟩) n n (upToP ps n 0) := by
    unfold OwnP; rw [← upToP_zero]
    exact World.ownsRow_lit w (zerosP n) n (Nat.le_refl _) (by simp only [maxLen]; omega) (zerosP_size n)
  have hb0 : Below w.heap.size w (w.alloc (.cells (zerosP n) 25)) := (Below.refl _ _).alloc (Nat.le_refl _) _
  go_enter Try.func26, Try.ntmps26
  go_wp2
  go_loopw [4] (fun i wr => ∃ k : Nat, k ≤ n ∧ i = .int .i64 k ∧ OwnP 25 wr w.heap.size (some ⟨w.heap.size, 0, none⟩) n n (upToP ps n k) ∧ Below w.heap.size w wr) (fun i _ => n - (intOf i).toNat)
  case atStart => exact ⟨0, Nat.zero_le _, rfl, hO0, hb0⟩
  case round =>
    obtain ⟨k, hk, rfl, hO, hbl⟩ := hrel
    clear hmk hO0 hb0
    by_cases hlt : k < n
    · obtain ⟨b, off, rfl, hb, hc⟩ := (hz.below hbl).at_ (by omega)
      obtain ⟨hc1, hc2⟩ := hc k hlt
      clear hc
      go_wp2_with fail
      refine (toAnt_any _ _ _).mono ?_
      rintro e w1 ⟨rfl, hb1⟩
      have hO1 := hO.below hb1
      have hbl1 := hbl.trans (hb1.mono hbl.size)
      obtain ⟨o1, o2, hs1, hs2⟩ := hO1.cells2 hlt
      have hf1 : w1.frozen? ⟨w.heap.size, k * 2, none⟩ = false := World.ownsRow.frozenAt hO1 _
      have hf2 : w1.frozen? ⟨w.heap.size, k * 2 + 1, none⟩ = false := World.ownsRow.frozenAt hO1 _
      have HS := Lib.hid (hO1.stored2 (x := px ps k) (y := py ps k) hlt)
      have HU := Lib.hid (upToP_set HL.out hlt)
      have HBl := Lib.hid ((hbl1.setCell (p := ⟨w.heap.size, k * 2, none⟩) (Nat.le_refl _) (.int .i64 (px ps k))).setCell (p := ⟨w.heap.size, k * 2 + 1, none⟩) (Nat.le_refl _) (.int .i64 (py ps k)))
      go_wp2
      go_roundw
      case rel => exact ⟨k + 1, by omega, by go_num, by rw [← HU.out]; exact HS.out, HBl.out⟩
      case measure => simp [intOf]; omega
    · obtain rfl : k = n := by omega
      go_wp2
      go_ret
      exact ⟨_, _, _, rfl, by rw [upToP_all HL.out] at hO; exact hO, hbl⟩

def eqOneAnt (x y x' y' : Int) : Bool := decide (x = x' ∧ y = y')
theorem eqAnt_any (x y x' y' : Int) (w : World) :
    Calls Try.prog 54 #[.agg #[.int .i64 x, .int .i64 y], .agg #[.int .i64 x', .int .i64 y']] w fun e w' => e = .returned (.bool (eqOneAnt x y x' y')) ∧ Below w.heap.size w w' := by
  have hB : ∀ o o' : Obj, Below w.heap.size w ((w.alloc o).alloc o') := fun o o' => ((Below.refl _ _).alloc (Nat.le_refl _) _).alloc (by simp) _
  have HB := Lib.hid hB
  clear hB
  by_cases hx : x = x'
  · subst hx
    by_cases hy : y = y'
    · subst hy
      have H : Hid (eqOneAnt x y x y = true) := by simp [eqOneAnt, Hid]
      go_enter Try.func54, Try.ntmps54
      go_wp2
      go_ret
      exact ⟨ret_bool H.out.symm, HB.out _ _⟩
    · have H : Hid (eqOneAnt x y x y' = false) := by simp [eqOneAnt, hy, Hid]
      have hE : (y != y') = true := by simp [hy]
      clear hy
      go_enter Try.func54, Try.ntmps54
      go_wp2
      go_ret
      exact ⟨ret_bool H.out.symm, HB.out _ _⟩
  · have H : Hid (eqOneAnt x y x' y' = false) := by simp [eqOneAnt, hx, Hid]
    have hE : (x != x') = true := by simp [hx]
    clear hx
    go_enter Try.func54, Try.ntmps54
    go_wp2
    go_ret
    exact ⟨ret_bool H.out.symm, HB.out _ _⟩

set_option maxHeartbeats 2000000 in
theorem eqAntS_any (A B : Option Addr) (n m c d : Nat) (ps qs : List (Int × Int)) (w : World) (hz : Prs w A n ps) (hy : Prs w B m qs) (hn : n ≤ 1048577) :
    Calls Try.prog 29 #[.slice A n c, .slice B m d] w fun e w' => e = .returned (.bool (eqP ps qs)) ∧ Below w.heap.size w w' := by
  by_cases hnm : n = m
  · subst hnm
    have HL := Lib.hid (hz.len.trans hy.len.symm)
    have HL' := Lib.hid hz.len
    go_enter Try.func29, Try.ntmps29
    go_wp2
    go_loopw [5] (fun i wr => ∃ k : Nat, k ≤ n ∧ i = .int .i64 k ∧ (∀ j, j < k → px ps j = px qs j ∧ py ps j = py qs j) ∧ Below w.heap.size w wr) (fun i _ => n - (intOf i).toNat)
    case atStart => exact ⟨0, Nat.zero_le _, rfl, fun j hj => absurd hj (by omega), Below.refl _ _⟩
    case round =>
      obtain ⟨k, hk, rfl, ha, hbl⟩ := hrel
      have HA := Lib.hid ha
      clear ha
      by_cases hlt : k < n
      · obtain ⟨b, off, rfl, hb, hc⟩ := (hz.below hbl).at_ (by omega)
        obtain ⟨b', off', rfl, hb', hc'⟩ := (hy.below hbl).at_ (by omega)
        obtain ⟨hc1, hc2⟩ := hc k hlt
        obtain ⟨hc3, hc4⟩ := hc' k hlt
        have HBl := Lib.hid (fun (wx : World) (h : Below wr.heap.size wr wx) => hbl.trans (h.mono hbl.size))
        have hk1 : (k : Int) < (n : Int) := by omega
        clear hc hc'
        cases he : eqOneAnt (px ps k) (py ps k) (px qs k) (py qs k)
        · have HE : Hid (eqP ps qs = false) := by
            simp only [eqOneAnt, decide_eq_false_iff_not] at he
            by_cases h1 : px ps k = px qs k
            · exact eqP_y (fun h2 => he ⟨h1, h2⟩)
            · exact eqP_x h1
          go_wp2
          go_region_with (go_at_call 54; refine (eqAnt_any _ _ _ _ _).mono ?_; rintro e w1 ⟨rfl, hb1⟩)
          all_goals go_wp2
          all_goals go_ret
          all_goals exact ⟨ret_bool HE.out.symm, HBl.out _ ((below_drewN (Below.refl _ wr) 1).trans hb1)⟩
        · have hee : px ps k = px qs k ∧ py ps k = py qs k := by simpa [eqOneAnt] using he
          have HE := Lib.hid hee
          clear hee
          go_wp2
          go_region_with (go_at_call 54; refine (eqAnt_any _ _ _ _ _).mono ?_; rintro e w1 ⟨rfl, hb1⟩)
          all_goals
            go_wp2
            go_roundw
            case rel =>
              refine ⟨k + 1, by omega, by go_num, fun j hj => ?_, HBl.out _ ((below_drewN (Below.refl _ wr) 1).trans hb1)⟩
              rcases Nat.lt_or_ge j k with h | h
              · exact HA.out j h
              · obtain rfl : j = k := by omega
                exact HE.out
            case measure => simp [intOf]; omega
      · have H : Hid (eqP ps qs = true) := eqP_all HL.out fun j hj => HA.out j (by rw [HL'.out] at hj; omega)
        go_wp2
        go_ret
        exact ⟨ret_bool H.out.symm, hbl⟩
  · have H := Lib.hid (eqP_len (ps := ps) (qs := qs) (by rw [hz.len, hy.len]; exact hnm))
    have h1 : ((n : Int) != (m : Int)) = true := by simp; omega
    have h2 : (n != m) = true := by simp; omega
    go_enter Try.func29, Try.ntmps29
    go_wp2
    go_ret
    exact ⟨ret_bool H.out.symm, Below.refl _ _⟩

end Go.Proofs.Ytkmnjekpogbkkaa
