/-
  Contracts: impl.SamplesShift and spec.SamplesShift move samples round; impl.SamplesLevel and spec.SamplesLevel take the level of each.
-/
import Derived.Test.YtiehommofdjgcaaCircle
import Derived.Test.YtiehommofdjgcaaSamples
import Derived.Test.YtiehommofdjgcaaInts
namespace Go.Proofs.Ytiehommofdjgcaa
open Go.RowKit
set_option linter.unusedVariables false

/-- The samples moved by lag places, in a circle. -/
def shl (zs : List Int) (lag : Int) : List Int := (List.range zs.length).map fun (i : Nat) => el zs (cyc ((i : Int) - lag) zs.length).toNat
def shOk (zs : List Int) (lag : Int) : Bool := svB zs && betB lag (-1000) 1000
def shV (zs : List Int) (lag : Int) : List Int := if shOk zs lag then shl zs lag else []
theorem shV_no {zs : List Int} {lag : Int} (h : shOk zs lag = false) : shV zs lag = [] := by simp [shV, h]
theorem shV_len (zs : List Int) (lag : Int) (h : zs.length ≤ 1048576) : (shV zs lag).length ≤ 1048576 := by unfold shV; split <;> simp [shl, h]
theorem shV_yes {zs : List Int} {lag : Int} (h : shOk zs lag = true) : shV zs lag = shl zs lag := by simp [shV, h]

theorem cyc_back {i k lag n : Int} (hi0 : 0 ≤ i) (hi1 : i < n) (hk0 : 0 ≤ k) (hk1 : k < n) : cyc (i - lag) n = k ↔ i = cyc (k + lag) n := by
  unfold cyc
  constructor
  · rintro rfl
    rw [Int.emod_add_emod, Int.sub_add_cancel, Int.emod_eq_of_lt hi0 hi1]
  · rintro rfl
    rw [Int.sub_eq_add_neg, Int.emod_add_emod, ← Int.sub_eq_add_neg, Int.add_sub_cancel, Int.emod_eq_of_lt hk0 hk1]

/-- What impl.SamplesShift holds after k rounds. -/
def part (zs : List Int) (lag : Int) (k : Nat) : List Int := (List.range zs.length).map fun (i : Nat) => if (cyc ((i : Int) - lag) zs.length).toNat < k then el zs (cyc ((i : Int) - lag) zs.length).toNat else 0
theorem part_len (zs : List Int) (lag : Int) (k : Nat) : (part zs lag k).length = zs.length := by simp [part]
theorem part_zero (zs : List Int) (lag : Int) : (zerosA zs.length).toList = (part zs lag 0).map (Value.int .i64) := by
  simp only [part, zerosA, Nat.not_lt_zero, if_false]
  apply List.ext_getElem <;> simp
theorem part_all (zs : List Int) (lag : Int) : part zs lag zs.length = shl zs lag := by
  apply List.map_congr_left
  intro i hi
  rw [List.mem_range] at hi
  have h1 := cyc_ge (k := (i : Int) - lag) (n := zs.length) (by omega)
  have h2 := cyc_lt (k := (i : Int) - lag) (n := zs.length) (by omega)
  rw [if_pos (by omega)]
theorem part_set {zs : List Int} {lag : Int} {k j : Nat} (hk : k < zs.length) (hj : cyc ((k : Int) + lag) zs.length = (j : Int)) :
    ((part zs lag k).map (Value.int .i64)).set j (.int .i64 (el zs k)) = (part zs lag (k + 1)).map (Value.int .i64) := by
  rw [← List.map_set]
  congr 1
  have hj1 : (j : Int) < zs.length := by rw [← hj]; exact cyc_lt (by omega)
  apply List.ext_getElem
  · simp [part_len]
  · intro i h1 h2
    have hi : i < zs.length := by simpa [part_len] using h2
    have hb := cyc_back (i := i) (k := k) (lag := lag) (n := zs.length) (by omega) (by omega) (by omega) (by omega)
    have h3 := cyc_ge (k := (i : Int) - lag) (n := zs.length) (by omega)
    rw [List.getElem_set]
    by_cases e : j = i
    · subst e
      have hc : cyc ((j : Int) - lag) zs.length = (k : Int) := hb.2 hj.symm
      simp [part, hc]
      intro h
      omega
    · have hc : ¬ cyc ((i : Int) - lag) zs.length = (k : Int) := fun h => e (by have := hb.1 h; rw [hj] at this; omega)
      rw [if_neg e]
      simp only [part, List.getElem_map, List.getElem_range]
      by_cases h4 : (cyc ((i : Int) - lag) zs.length).toNat < k
      · rw [if_pos h4, if_pos (by omega)]
      · rw [if_neg h4, if_neg (by omega)]

set_option maxHeartbeats 1000000 in
theorem iShift_any (A : Option Addr) (n c : Nat) (zs : List Int) (lag : Int) (w : World) (hz : Ints w A n zs) (hn : n ≤ 1048577) :
    Calls Try.prog 21 #[.slice A n c, .int .i64 lag] w (RetRowB w (shV zs lag) (shOk zs lag)) := by
  have HL := Lib.hid hz.len
  cases hv : svB zs
  · have H : Hid (shOk zs lag = false) := by unfold shOk; rw [hv]; rfl
    go_enter Try.func21, Try.ntmps21
    go_wp2_with fail
    refine (iValid_any _ _ _ zs _ hz hn).mono ?_
    rintro e w' ⟨rfl, rfl⟩
    go_wp2
    go_ret2
    exact ⟨_, _, _, by rw [H.out]; rfl, by rw [shV_no H.out]; exact OwnI.nil _ _, Below.refl _ _⟩
  · cases hl : betB lag (-1000) 1000
    · have H : Hid (shOk zs lag = false) := by unfold shOk; rw [hv, hl]; rfl
      go_enter Try.func21, Try.ntmps21
      go_wp2_with fail
      refine (iValid_any _ _ _ zs _ hz hn).mono ?_
      rintro e w' ⟨rfl, rfl⟩
      go_wp2_with fail
      refine (inRange_any _ _ _ (by omega) (by omega)).mono ?_
      rintro e w' ⟨rfl, rfl⟩
      go_wp2
      go_ret2
      exact ⟨_, _, _, by rw [H.out]; rfl, by rw [shV_no H.out]; exact OwnI.nil _ _, Below.refl _ _⟩
    · have H : Hid (shOk zs lag = true) := by unfold shOk; rw [hv, hl]; rfl
      obtain ⟨hl1, hl2⟩ := betB_true.1 hl
      have hs : svB zs = true := hv
      have hlen : 1 ≤ n ∧ n ≤ 32 := by
        simp only [svB, Bool.and_eq_true] at hs
        have := betB_true.1 hs.1
        rw [hz.len] at this; omega
      obtain ⟨hn1, hn2⟩ := hlen
      have hmk := run_makeI n (by omega)
      have hO0 : OwnI (w.alloc (.cells (zerosA n) 3)) w.heap.size (some ⟨w.heap.size, 0, none⟩) n n (part zs lag 0) := by
        unfold OwnI; rw [← part_zero, hz.len]
        exact World.ownsRow_lit w (zerosA n) n (Nat.le_refl _) (by simp only [maxLen]; omega) (by simp [zerosA])
      have hb0 : Below w.heap.size w (w.alloc (.cells (zerosA n) 3)) := (Below.refl _ _).alloc (Nat.le_refl _) _
      obtain ⟨b, off, rfl, hb, hc⟩ := hz.at_ (by omega)
      have HC := Lib.hid hc
      clear hs hc
      go_enter Try.func21, Try.ntmps21
      go_wp2_with fail
      refine (iValid_any _ _ _ zs _ hz hn).mono ?_
      rintro e w' ⟨rfl, rfl⟩
      go_wp2_with fail
      refine (inRange_any _ _ _ (by omega) (by omega)).mono ?_
      rintro e w' ⟨rfl, rfl⟩
      go_wp2
      clear hv hl
      go_loopw [22] (fun i wr => ∃ k : Nat, k ≤ n ∧ i = .int .i64 k ∧ OwnI wr w.heap.size (some ⟨w.heap.size, 0, none⟩) n n (part zs lag k) ∧ Below w.heap.size w wr) (fun i _ => n - (intOf i).toNat)
      case atStart => exact ⟨0, Nat.zero_le _, rfl, hO0, hb0⟩
      case round =>
        obtain ⟨k, hk, rfl, hO, hbl⟩ := hrel
        clear hmk hO0 hb0
        by_cases hlt : k < n
        · have hck : wr.cell? ⟨b, off + k, none⟩ = some (.int .i64 (el zs k)) := (hbl.cell (p := ⟨b, off + k, none⟩) hb).trans (HC.out k hlt)
          obtain ⟨j, hj, hjn⟩ := cyc_nat ((k : Int) + lag) (n := (n : Int)) (by omega)
          have HJ := Lib.hid hj
          have hjn' : j < n := by omega
          obtain ⟨old, hs1⟩ := hO.cell_ hjn'
          have hs2 : wr.frozen? ⟨w.heap.size, j, none⟩ = false := World.ownsRow.frozenAt hO j
          have hst := World.ownsRow.stored hO j (.int .i64 (el zs k))
          rw [part_set (by rw [HL.out]; exact hlt) (by rw [HL.out]; exact hj)] at hst
          have HS := Lib.hid hst
          have HBl := Lib.hid (hbl.setCell (p := ⟨w.heap.size, j, none⟩) (Nat.le_refl _) (.int .i64 (el zs k)))
          clear hst hj
          go_wp2_with fail
          refine (circle_any _ _ _ (by omega) (by omega) (by omega) (by omega)).mono ?_
          rintro e w' ⟨he, rfl⟩
          rw [HJ.out] at he
          subst he
          go_wp2
          go_roundw
          case rel => exact ⟨k + 1, by omega, by go_num, HS.out.1, HBl.out⟩
          case measure => simp [intOf]; omega
        · obtain rfl : k = n := by omega
          go_wp2
          go_ret2
          exact ⟨_, _, _, by rw [H.out]; rfl, by rw [shV_yes H.out, ← part_all, HL.out]; exact hO, hbl⟩

theorem take_snoc {zs : List Int} {k : Nat} (h : k < zs.length) : zs.take (k + 1) = zs.take k ++ [el zs k] := by
  rw [List.take_succ_eq_append_getElem h, el_lt h]
theorem shl_len (zs : List Int) (lag : Int) : (shl zs lag).length = zs.length := by simp [shl]
theorem shl_at {zs : List Int} {lag : Int} {k : Nat} (h : k < zs.length) : el (shl zs lag) k = el zs (cyc ((k : Int) - lag) zs.length).toNat := by
  rw [el_lt (by rw [shl_len]; exact h)]; simp [shl]

set_option maxHeartbeats 1000000 in
theorem sShift_any (A : Option Addr) (n c : Nat) (zs : List Int) (lag : Int) (w : World) (hz : Ints w A n zs) (hn : n ≤ 1048577) :
    Calls Try.prog 33 #[.slice A n c, .int .i64 lag] w (RetRowB w (shV zs lag) (shOk zs lag)) := by
  have HL := Lib.hid hz.len
  have hb0 : Below w.heap.size w (w.alloc (.cells #[] 3)) := (Below.refl _ _).alloc (Nat.le_refl _) _
  have hz0 := hz.below hb0
  have hO0 := OwnI.lit0 w (Nat.le_refl _)
  cases hv : svB zs
  · have H : Hid (shOk zs lag = false) := by unfold shOk; rw [hv]; rfl
    go_enter Try.func33, Try.ntmps33
    go_wp2_with fail
    refine (sValid_any _ _ _ zs _ hz0 hn).mono ?_
    rintro e w' ⟨rfl, rfl⟩
    go_wp2
    go_ret2
    exact ⟨_, _, _, by rw [H.out]; rfl, by rw [shV_no H.out]; exact hO0, hb0⟩
  · cases hl : betB lag (-1000) 1000
    · have H : Hid (shOk zs lag = false) := by unfold shOk; rw [hv, hl]; rfl
      go_enter Try.func33, Try.ntmps33
      go_wp2_with fail
      refine (sValid_any _ _ _ zs _ hz0 hn).mono ?_
      rintro e w' ⟨rfl, rfl⟩
      go_wp2_with fail
      refine (l6In_any _ _ _ _).mono ?_
      rintro e w' ⟨rfl, rfl⟩
      go_wp2
      go_ret2
      exact ⟨_, _, _, by rw [H.out]; rfl, by rw [shV_no H.out]; exact hO0, hb0⟩
    · have H : Hid (shOk zs lag = true) := by unfold shOk; rw [hv, hl]; rfl
      obtain ⟨hl1, hl2⟩ := betB_true.1 hl
      have hs : svB zs = true := hv
      have hlen : 1 ≤ n ∧ n ≤ 32 := by
        simp only [svB, Bool.and_eq_true] at hs
        have := betB_true.1 hs.1
        rw [hz.len] at this; omega
      obtain ⟨hn1, hn2⟩ := hlen
      obtain ⟨b, off, rfl, hb, hc⟩ := hz.at_ (by omega)
      have HC := Lib.hid hc
      clear hs hc
      go_enter Try.func33, Try.ntmps33
      go_wp2_with fail
      refine (sValid_any _ _ _ zs _ hz0 hn).mono ?_
      rintro e w' ⟨rfl, rfl⟩
      go_wp2_with fail
      refine (l6In_any _ _ _ _).mono ?_
      rintro e w' ⟨rfl, rfl⟩
      go_wp2
      clear hv hl
      go_loopw [6, 7] (fun v i wr => ∃ (k : Nat) (A' : Option Addr) (c' : Nat), k ≤ n ∧ i = .int .i64 k ∧ v = .slice A' k c' ∧ OwnI wr w.heap.size A' k c' ((shl zs lag).take k) ∧ Below w.heap.size w wr) (fun _ i _ => n - (intOf i).toNat)
      case atStart => exact ⟨0, _, _, Nat.zero_le _, rfl, rfl, hO0, hb0⟩
      case round =>
        obtain ⟨k, A', c', hk, rfl, rfl, hO, hbl⟩ := hrel
        clear hO0 hb0 hz0
        by_cases hlt : k < n
        · obtain ⟨j, hj, hjn⟩ := cyc_nat ((k : Int) - lag) (n := (n : Int)) (by omega)
          have HJ := Lib.hid hj
          have hjn' : j < n := by omega
          have hck : wr.cell? ⟨b, off + j, none⟩ = some (.int .i64 (el zs j)) := (hbl.cell (p := ⟨b, off + j, none⟩) hb).trans (HC.out j hjn')
          have HT : Hid ((shl zs lag).take (k + 1) = (shl zs lag).take k ++ [el zs j]) := by
            rw [take_snoc (by rw [shl_len, HL.out]; exact hlt), shl_at (by rw [HL.out]; exact hlt), HL.out, hj]; rfl
          have hsz := hbl.size
          clear hj
          go_wp2_with fail
          refine (l1Mod_any _ _ _ (by omega) (by omega) (by omega) (by omega)).mono ?_
          rintro e w' ⟨he, rfl⟩
          rw [HJ.out] at he
          subst he
          go_wp2_with (at_builtin; refine wpList_appendI rfl _ _ rfl wr w.heap.size A' k c' _ (el zs j) rfl rfl hO (by omega) hsz ?_; intro A2 c2 w2 hO2 hG2)
          have hb2 := hbl.grown hG2 hsz (fun k e => (hO.lt k e).1)
          go_roundw
          case rel => exact ⟨k + 1, A2, c2, by omega, by go_num, rfl, by rw [HT.out]; exact hO2, hb2⟩
          case measure => simp [intOf]; omega
        · obtain rfl : k = n := by omega
          go_wp2
          go_ret2
          exact ⟨_, _, _, by rw [H.out]; rfl, by rw [shV_yes H.out]; rw [List.take_of_length_le (by rw [shl_len, HL.out]; exact Nat.le_refl _)] at hO; exact hO, hbl⟩

end Go.Proofs.Ytiehommofdjgcaa
