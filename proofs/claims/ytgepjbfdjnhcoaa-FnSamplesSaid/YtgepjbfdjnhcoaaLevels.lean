/-
  Contracts: impl.SamplesLevel and spec.SamplesLevel take the level of each sample.
-/
import Derived.Test.YtgepjbfdjnhcoaaShift
import Derived.Test.YtgepjbfdjnhcoaaLevel
namespace Go.Proofs.Ytgepjbfdjnhcoaa
open Go.RowKit
set_option linter.unusedVariables false

def lvOk (zs : List Int) (t : Int) : Bool := svB zs && betB t 1 1000
def lvl (zs : List Int) (t : Int) : List Int := zs.map fun x => lev x t
def lvV (zs : List Int) (t : Int) : List Int := if lvOk zs t then lvl zs t else []
theorem lvV_no {zs : List Int} {t : Int} (h : lvOk zs t = false) : lvV zs t = [] := by simp [lvV, h]
theorem lvV_len (zs : List Int) (t : Int) (h : zs.length ≤ 1048576) : (lvV zs t).length ≤ 1048576 := by unfold lvV; split <;> simp [lvl, h]
theorem lvV_yes {zs : List Int} {t : Int} (h : lvOk zs t = true) : lvV zs t = lvl zs t := by simp [lvV, h]
theorem lvl_len (zs : List Int) (t : Int) : (lvl zs t).length = zs.length := by simp [lvl]
theorem lvl_at {zs : List Int} {t : Int} {k : Nat} (h : k < zs.length) : el (lvl zs t) k = lev (el zs k) t := by
  rw [el_lt (by rw [lvl_len]; exact h), el_lt h]; simp [lvl]

set_option maxHeartbeats 1000000 in
theorem iLevels_any (A : Option Addr) (n c : Nat) (zs : List Int) (t : Int) (w : World) (hz : Ints w A n zs) (hn : n ≤ 1048577) :
    Calls Try.prog 27 #[.slice A n c, .int .i64 t] w (RetRowB w (lvV zs t) (lvOk zs t)) := by
  have HL := Lib.hid hz.len
  cases hv : svB zs
  · have H : Hid (lvOk zs t = false) := by unfold lvOk; rw [hv]; rfl
    go_enter Try.func27, Try.ntmps27
    go_wp2_with fail
    refine (iValid_any _ _ _ zs _ hz hn).mono ?_
    rintro e w' ⟨rfl, rfl⟩
    go_wp2
    go_ret2
    exact ⟨_, _, _, by rw [H.out]; rfl, by rw [lvV_no H.out]; exact OwnI.nil _ _, Below.refl _ _⟩
  by_cases ht1 : 1 ≤ t
  · by_cases ht2 : t ≤ 1000
    · have H : Hid (lvOk zs t = true) := by unfold lvOk; rw [hv, betB_true.2 ⟨ht1, ht2⟩]; rfl
      have hs : svB zs = true := hv
      have hlen : 1 ≤ n ∧ n ≤ 32 := by
        simp only [svB, Bool.and_eq_true] at hs
        have := betB_true.1 hs.1
        rw [hz.len] at this; omega
      obtain ⟨hn1, hn2⟩ := hlen
      obtain ⟨b, off, rfl, hb, hc⟩ := hz.at_ (by omega)
      have HC := Lib.hid hc
      clear hs hc
      go_enter Try.func27, Try.ntmps27
      go_wp2_with fail
      refine (iValid_any _ _ _ zs _ hz hn).mono ?_
      rintro e w' ⟨rfl, rfl⟩
      go_wp2
      clear hv
      go_loopw [6, 22] (fun v i wr => ∃ (k : Nat) (A' : Option Addr) (c' : Nat), k ≤ n ∧ i = .int .i64 k ∧ v = .slice A' k c' ∧ OwnI wr w.heap.size A' k c' ((lvl zs t).take k) ∧ Below w.heap.size w wr) (fun _ i _ => n - (intOf i).toNat)
      case atStart => exact ⟨0, _, _, Nat.zero_le _, rfl, rfl, OwnI.nil _ _, Below.refl _ _⟩
      case round =>
        obtain ⟨k, A', c', hk, rfl, rfl, hO, hbl⟩ := hrel
        by_cases hlt : k < n
        · have hck : wr.cell? ⟨b, off + k, none⟩ = some (.int .i64 (el zs k)) := (hbl.cell (p := ⟨b, off + k, none⟩) hb).trans (HC.out k hlt)
          have HT : Hid ((lvl zs t).take (k + 1) = (lvl zs t).take k ++ [lev (el zs k) t]) := by
            rw [take_snoc (by rw [lvl_len, HL.out]; exact hlt), lvl_at (by rw [HL.out]; exact hlt)]; exact rfl
          have hsz := hbl.size
          go_wp2_with (first | (go_at_call 15; refine (iLevel_any _ _ _).mono ?_; rintro e w' ⟨rfl, rfl⟩) | (at_builtin; refine wpList_appendI rfl _ _ rfl wr w.heap.size A' k c' _ (lev (el zs k) t) rfl rfl hO (by omega) hsz ?_; intro A2 c2 w2 hO2 hG2))
          have hb2 := hbl.grown hG2 hsz (fun k e => (hO.lt k e).1)
          go_roundw
          case rel => exact ⟨k + 1, A2, c2, by omega, by go_num, rfl, by rw [HT.out]; exact hO2, hb2⟩
          case measure => simp [intOf]; omega
        · obtain rfl : k = n := by omega
          go_wp2
          go_ret2
          exact ⟨_, _, _, by rw [H.out]; rfl, by rw [lvV_yes H.out]; rw [List.take_of_length_le (by rw [lvl_len, HL.out]; exact Nat.le_refl _)] at hO; exact hO, hbl⟩
    · have H : Hid (lvOk zs t = false) := by unfold lvOk; rw [hv, betB_false.2 (fun h : 1 ≤ t ∧ t ≤ 1000 => ht2 h.2)]; rfl
      have ht2' : 1000 < t := by omega
      clear ht2
      go_enter Try.func27, Try.ntmps27
      go_wp2_with fail
      refine (iValid_any _ _ _ zs _ hz hn).mono ?_
      rintro e w' ⟨rfl, rfl⟩
      go_wp2
      go_ret2
      exact ⟨_, _, _, by rw [H.out]; rfl, by rw [lvV_no H.out]; exact OwnI.nil _ _, Below.refl _ _⟩
  · have H : Hid (lvOk zs t = false) := by unfold lvOk; rw [hv, betB_false.2 (fun h : 1 ≤ t ∧ t ≤ 1000 => ht1 h.1)]; rfl
    have ht1' : t < 1 := by omega
    clear ht1
    go_enter Try.func27, Try.ntmps27
    go_wp2_with fail
    refine (iValid_any _ _ _ zs _ hz hn).mono ?_
    rintro e w' ⟨rfl, rfl⟩
    go_wp2
    go_ret2
    exact ⟨_, _, _, by rw [H.out]; rfl, by rw [lvV_no H.out]; exact OwnI.nil _ _, Below.refl _ _⟩

set_option maxHeartbeats 1000000 in
theorem sLevels_any (A : Option Addr) (n c : Nat) (zs : List Int) (t : Int) (w : World) (hz : Ints w A n zs) (hn : n ≤ 1048577) :
    Calls Try.prog 26 #[.slice A n c, .int .i64 t] w (RetRowB w (lvV zs t) (lvOk zs t)) := by
  have HL := Lib.hid hz.len
  have hb0 : Below w.heap.size w (w.alloc (.cells #[] 3)) := (Below.refl _ _).alloc (Nat.le_refl _) _
  have hz0 := hz.below hb0
  have hO0 := OwnI.lit0 w (Nat.le_refl _)
  cases hv : svB zs
  · have H : Hid (lvOk zs t = false) := by unfold lvOk; rw [hv]; rfl
    go_enter Try.func26, Try.ntmps26
    go_wp2_with fail
    refine (sValid_any _ _ _ zs _ hz0 hn).mono ?_
    rintro e w' ⟨rfl, rfl⟩
    go_wp2
    go_ret2
    exact ⟨_, _, _, by rw [H.out]; rfl, by rw [lvV_no H.out]; exact hO0, hb0⟩
  cases hl : betB t 1 1000
  · have H : Hid (lvOk zs t = false) := by unfold lvOk; rw [hv, hl]; rfl
    go_enter Try.func26, Try.ntmps26
    go_wp2_with fail
    refine (sValid_any _ _ _ zs _ hz0 hn).mono ?_
    rintro e w' ⟨rfl, rfl⟩
    go_wp2_with fail
    refine (l6In_any _ _ _ _).mono ?_
    rintro e w' ⟨rfl, rfl⟩
    go_wp2
    go_ret2
    exact ⟨_, _, _, by rw [H.out]; rfl, by rw [lvV_no H.out]; exact hO0, hb0⟩
  · have H : Hid (lvOk zs t = true) := by unfold lvOk; rw [hv, hl]; rfl
    have hs : svB zs = true := hv
    have hlen : 1 ≤ n ∧ n ≤ 32 := by
      simp only [svB, Bool.and_eq_true] at hs
      have := betB_true.1 hs.1
      rw [hz.len] at this; omega
    obtain ⟨hn1, hn2⟩ := hlen
    obtain ⟨b, off, rfl, hb, hc⟩ := hz.at_ (by omega)
    have HC := Lib.hid hc
    clear hs hc
    go_enter Try.func26, Try.ntmps26
    go_wp2_with fail
    refine (sValid_any _ _ _ zs _ hz0 hn).mono ?_
    rintro e w' ⟨rfl, rfl⟩
    go_wp2_with fail
    refine (l6In_any _ _ _ _).mono ?_
    rintro e w' ⟨rfl, rfl⟩
    go_wp2
    clear hv hl
    go_loopw [6, 7] (fun v i wr => ∃ (k : Nat) (A' : Option Addr) (c' : Nat), k ≤ n ∧ i = .int .i64 k ∧ v = .slice A' k c' ∧ OwnI wr w.heap.size A' k c' ((lvl zs t).take k) ∧ Below w.heap.size w wr) (fun _ i _ => n - (intOf i).toNat)
    case atStart => exact ⟨0, _, _, Nat.zero_le _, rfl, rfl, hO0, hb0⟩
    case round =>
      obtain ⟨k, A', c', hk, rfl, rfl, hO, hbl⟩ := hrel
      clear hO0 hb0 hz0
      by_cases hlt : k < n
      · have hck : wr.cell? ⟨b, off + k, none⟩ = some (.int .i64 (el zs k)) := (hbl.cell (p := ⟨b, off + k, none⟩) hb).trans (HC.out k hlt)
        have HT : Hid ((lvl zs t).take (k + 1) = (lvl zs t).take k ++ [lev (el zs k) t]) := by
          rw [take_snoc (by rw [lvl_len, HL.out]; exact hlt), lvl_at (by rw [HL.out]; exact hlt)]; exact rfl
        have hsz := hbl.size
        go_wp2_with (first | (go_at_call 14; refine (sLevel_any _ _ _).mono ?_; rintro e w' ⟨rfl, rfl⟩) | (at_builtin; refine wpList_appendI rfl _ _ rfl wr w.heap.size A' k c' _ (lev (el zs k) t) rfl rfl hO (by omega) hsz ?_; intro A2 c2 w2 hO2 hG2))
        have hb2 := hbl.grown hG2 hsz (fun k e => (hO.lt k e).1)
        go_roundw
        case rel => exact ⟨k + 1, A2, c2, by omega, by go_num, rfl, by rw [HT.out]; exact hO2, hb2⟩
        case measure => simp [intOf]; omega
      · obtain rfl : k = n := by omega
        go_wp2
        go_ret2
        exact ⟨_, _, _, by rw [H.out]; rfl, by rw [lvV_yes H.out]; rw [List.take_of_length_le (by rw [lvl_len, HL.out]; exact Nat.le_refl _)] at hO; exact hO, hbl⟩

end Go.Proofs.Ytgepjbfdjnhcoaa
