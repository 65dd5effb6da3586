/-
  Contracts: slices.Index and slices.Contains at antennas; ArrayValid of the program and of the reference.
-/
import Derived.Test.YtkmnjekpogbkkaaAntV
namespace Go.Proofs.Ytkmnjekpogbkkaa
open Go.RowKit
set_option linter.unusedVariables false

theorem below_drewV {B : Nat} {a w : World} (h : Below B a w) (n : Nat) : Below B a (w.drewN n) := ⟨h.os, h.tape, h.output, h.size, h.block⟩

/-- slices.Index: a place, or -1. -/
def IdxPost (w : World) (ps : List (Int × Int)) (x y : Int) (e : Ending) (w' : World) : Prop :=
  ∃ m : Int, e = .returned (.int .i64 m) ∧ -1 ≤ m ∧ m ≤ 2000000 ∧ decide (0 ≤ m) = hasP ps x y ∧ Below w.heap.size w w'

set_option maxHeartbeats 2000000 in
theorem sIndex_any (A : Option Addr) (n c : Nat) (ps : List (Int × Int)) (x y : Int) (w : World) (hz : Prs w A n ps) (hn : n ≤ 1048577) :
    Calls Try.prog 64 #[.slice A n c, .agg #[.int .i64 x, .int .i64 y]] w (IdxPost w ps x y) := by
  have hnq := eqlAnt
  have hgd := grdAnt
  have HL := Lib.hid hz.len
  have hb0 := below_alloc w (.cells #[.int .i64 x, .int .i64 y] 25)
  obtain ⟨q0, q1, q2⟩ := Box.new w 25 x y
  have hz0 := hz.below hb0
  go_enter Try.func64, Try.ntmps64
  go_wp2
  generalize w.alloc (.cells #[.int .i64 x, .int .i64 y] 25) = W at hb0 q0 q1 q2 hz0 ⊢
  go_loopw [8] (fun i wr => ∃ k : Nat, k ≤ n ∧ i = .int .i64 k ∧ (∀ j, j < k → ¬ (px ps j = x ∧ py ps j = y)) ∧ ∃ q, wr = W.drewN q) (fun i _ => n - (intOf i).toNat)
  case atStart => exact ⟨0, Nat.zero_le _, rfl, fun j hj => absurd hj (by omega), 0, rfl⟩
  case round =>
    obtain ⟨k, hk, rfl, ha, q, rfl⟩ := hrel
    have HA := Lib.hid ha
    clear ha
    by_cases hlt : k < n
    · obtain ⟨b, off, rfl, hb, hc⟩ := hz0.at_ (by omega)
      obtain ⟨hc1, hc2⟩ := hc k hlt
      clear hc
      cases he : eqQAnt x y (px ps k) (py ps k)
      · have HE : Hid (¬ (px ps k = x ∧ py ps k = y)) := by
          simp only [eqQAnt, decide_eq_false_iff_not] at he
          exact fun h => he ⟨h.1.symm, h.2.symm⟩
        go_wp2
        go_quiet (fail)
        go_wp2
        go_roundw
        case rel =>
          refine ⟨k + 1, by omega, by go_num, fun j hj => ?_, _, rfl⟩
          rcases Nat.lt_or_ge j k with h | h
          · exact HA.out j h
          · obtain rfl : j = k := by omega
            exact HE.out
        case measure => simp [intOf]; omega
      · have HE : Hid (hasP ps x y = true) := by
          simp only [eqQAnt, decide_eq_true_eq] at he
          exact hasP_true.2 ⟨k, by rw [HL.out]; exact hlt, he.1.symm, he.2.symm⟩
        go_wp2
        go_quiet (fail)
        go_wp2
        go_ret
        exact ⟨_, rfl, by omega, by omega, by rw [HE.out]; simp, below_drewV (below_drewV hb0 _) _⟩
    · have H : Hid (hasP ps x y = false) := hasP_false.2 fun j hj => HA.out j (by rw [HL.out] at hj; omega)
      go_wp2
      go_ret
      exact ⟨-1, rfl, by omega, by omega, by rw [H.out]; rfl, below_drewV hb0 _⟩

set_option maxHeartbeats 1000000 in
theorem sContains_any (A : Option Addr) (n c : Nat) (ps : List (Int × Int)) (x y : Int) (w : World) (hz : Prs w A n ps) (hn : n ≤ 1048577) :
    Calls Try.prog 56 #[.slice A n c, .agg #[.int .i64 x, .int .i64 y]] w fun e w' => e = .returned (.bool (hasP ps x y)) ∧ Below w.heap.size w w' := by
  have hb0 := below_alloc w (.cells #[.int .i64 x, .int .i64 y] 25)
  obtain ⟨q0, q1, q2⟩ := Box.new w 25 x y
  have hz0 := hz.below hb0
  go_enter Try.func56, Try.ntmps56
  go_wp2_with fail
  refine (sIndex_any _ _ _ ps _ _ _ hz0 hn).mono ?_
  rintro e w1 ⟨m, rfl, hm1, hm2, hd, hb1⟩
  have HD := Lib.hid hd
  clear hd
  go_wp2
  go_ret
  exact ⟨ret_bool HD.out, below_step hb0 hb1⟩

theorem ant_ways (ps : List (Int × Int)) (k : Nat) : (plc (px ps k) (py ps k) = false ∧ Hid (antOk ps k = false)) ∨ (plc (px ps k) (py ps k) = true ∧ hasP (ps.take k) (px ps k) (py ps k) = true ∧ Hid (antOk ps k = false)) ∨ (plc (px ps k) (py ps k) = true ∧ hasP (ps.take k) (px ps k) (py ps k) = false ∧ Hid (antOk ps k = true)) := by
  cases h1 : plc (px ps k) (py ps k)
  · exact .inl ⟨rfl, by simp [antOk, h1, Hid]⟩
  · cases h2 : hasP (ps.take k) (px ps k) (py ps k)
    · exact .inr (.inr ⟨rfl, rfl, by simp [antOk, h1, h2, Hid]⟩)
    · exact .inr (.inl ⟨rfl, rfl, by simp [antOk, h1, h2, Hid]⟩)

set_option maxHeartbeats 2000000 in
theorem iArrayV_any (A : Option Addr) (n c : Nat) (ps : List (Int × Int)) (w : World) (hz : Prs w A n ps) (hn : n ≤ 1048577) (hcap : n ≤ c) :
    Calls Try.prog 37 #[.slice A n c] w fun e w' => e = .returned (.bool (avB ps)) ∧ Below w.heap.size w w' := by
  have HL := Lib.hid hz.len
  by_cases h2 : n < 2
  · have H : Hid (avB ps = false) := av_no (betB_false.2 (by rw [HL.out]; omega))
    go_enter Try.func37, Try.ntmps37
    go_wp2
    go_ret
    exact ⟨ret_bool H.out.symm, Below.refl _ _⟩
  · by_cases h7 : 7 < n
    · have H : Hid (avB ps = false) := av_no (betB_false.2 (by rw [HL.out]; omega))
      have h2' : 2 ≤ n := by omega
      clear h2
      go_enter Try.func37, Try.ntmps37
      go_wp2
      go_ret
      exact ⟨ret_bool H.out.symm, Below.refl _ _⟩
    · have HB : Hid (betB ps.length 2 7 = true) := betB_true.2 (by rw [HL.out]; omega)
      have h2' : 2 ≤ n := by omega
      have h7' : n ≤ 7 := by omega
      clear h2 h7
      go_enter Try.func37, Try.ntmps37
      go_wp2
      go_loopw [15] (fun i wr => ∃ k : Nat, k ≤ n ∧ i = .int .i64 k ∧ (∀ j, j < k → antOk ps j = true) ∧ Below w.heap.size w wr) (fun i _ => n - (intOf i).toNat)
      case atStart => exact ⟨0, Nat.zero_le _, rfl, fun j hj => absurd hj (by omega), Below.refl _ _⟩
      case round =>
        obtain ⟨k, hk, rfl, ha, hbl⟩ := hrel
        have HA := Lib.hid ha
        clear ha
        by_cases hlt : k < n
        · obtain ⟨b, off, rfl, hb, hc⟩ := (hz.below hbl).at_ (by omega)
          obtain ⟨hc1, hc2⟩ := hc k hlt
          have hbl1 := hbl.alloc hbl.size (.cells #[.int .i64 (px ps k), .int .i64 (py ps k)] 25)
          have hbx := Box.new wr 25 (px ps k) (py ps k)
          have hzW := (hz.below hbl).below (below_alloc wr (.cells #[.int .i64 (px ps k), .int .i64 (py ps k)] 25))
          have hki : (k : Int) ≤ (c : Int) := by omega
          clear hc
          go_wp2
          generalize wr.alloc (.cells #[.int .i64 (px ps k), .int .i64 (py ps k)] 25) = W at hbl1 hbx hzW ⊢
          have q1 := hbx.2.1
          have q2 := hbx.2.2
          rcases ant_ways ps k with ⟨h1, H⟩ | ⟨h1, h3, H⟩ | ⟨h1, h3, H⟩
          · have HP := Lib.hid h1
            clear h1
            first | (go_region_with (go_at_call 38; refine (isPlace_any _ _ _).mono ?_; rintro e w1 ⟨he, hb1⟩; rw [HP.out] at he; subst he)) | fail
            all_goals
              go_wp2
              go_ret
              exact ⟨ret_bool (av_bad (by rw [HL.out]; exact hlt) H.out).symm, below_step (below_drew hbl1) hb1⟩
          · have HP := Lib.hid h1
            have H3 := Lib.hid h3
            clear h1 h3
            go_region_with (first | (go_at_call 38; refine (isPlace_any _ _ _).mono ?_; rintro e w1 ⟨he, hb1⟩; rw [HP.out] at he; subst he; have q3 := (hbx.drew.below hb1).2.1; have q4 := (hbx.drew.below hb1).2.2; have hcut := (hzW.drew.below hb1).cut (k := k) (by omega)) | (go_at_call 56; refine (sContains_any _ _ _ (ps.take k) _ _ _ hcut (by omega)).mono ?_; rintro e w2 ⟨he, hb2⟩; rw [H3.out] at he; subst he))
            all_goals
              go_wp2
              go_ret
              exact ⟨ret_bool (av_bad (by rw [HL.out]; exact hlt) H.out).symm, below_step (below_step (below_drew hbl1) hb1) hb2⟩
          · have HP := Lib.hid h1
            have H3 := Lib.hid h3
            clear h1 h3
            go_region_with (first | (go_at_call 38; refine (isPlace_any _ _ _).mono ?_; rintro e w1 ⟨he, hb1⟩; rw [HP.out] at he; subst he; have q3 := (hbx.drew.below hb1).2.1; have q4 := (hbx.drew.below hb1).2.2; have hcut := (hzW.drew.below hb1).cut (k := k) (by omega)) | (go_at_call 56; refine (sContains_any _ _ _ (ps.take k) _ _ _ hcut (by omega)).mono ?_; rintro e w2 ⟨he, hb2⟩; rw [H3.out] at he; subst he))
            all_goals
              go_wp2
              go_roundw
              case rel =>
                refine ⟨k + 1, by omega, by go_num, fun j hj => ?_, below_step (below_step (below_drew hbl1) hb1) hb2⟩
                rcases Nat.lt_or_ge j k with h | h
                · exact HA.out j h
                · obtain rfl : j = k := by omega
                  exact H.out
              case measure => simp [intOf]; omega
        · have H : Hid (avB ps = true) := av_mk HB.out fun j hj => HA.out j (by rw [HL.out] at hj; omega)
          go_wp2
          go_ret
          exact ⟨ret_bool H.out.symm, hbl⟩

set_option maxHeartbeats 4000000 in
theorem sArrayV_any (A : Option Addr) (n c : Nat) (ps : List (Int × Int)) (w : World) (hz : Prs w A n ps) (hn : n ≤ 1048577) (hcap : n ≤ c) :
    Calls Try.prog 40 #[.slice A n c] w fun e w' => e = .returned (.bool (avB ps)) ∧ Below w.heap.size w w' := by
  have hnq := eqlAnt
  have hgd := grdAnt
  have HL := Lib.hid hz.len
  go_enter Try.func40, Try.ntmps40
  go_wp2
  go_loopw [3] (fun i wr => ∃ k : Nat, k ≤ n ∧ i = .int .i64 k ∧ (∀ j, j < k → antOk ps j = true) ∧ Below w.heap.size w wr) (fun i _ => n - (intOf i).toNat)
  case atStart => exact ⟨0, Nat.zero_le _, rfl, fun j hj => absurd hj (by omega), Below.refl _ _⟩
  case round =>
    obtain ⟨k, hk, rfl, ha, hbl⟩ := hrel
    have HA := Lib.hid ha
    clear ha
    by_cases hlt : k < n
    · obtain ⟨b, off, rfl, hb, hc⟩ := (hz.below hbl).at_ (by omega)
      obtain ⟨hc1, hc2⟩ := hc k hlt
      have HC := Lib.hid hc
      clear hc
      cases h1 : plc (px ps k) (py ps k)
      · have H : Hid (antOk ps k = false) := by simp [antOk, h1, Hid]
        have HP := Lib.hid h1
        clear h1
        go_wp2_with fail
        refine (l3Place_any _ _ _).mono ?_
        rintro e w1 ⟨he, hb1⟩
        rw [HP.out] at he
        subst he
        go_wp2
        go_ret
        exact ⟨ret_bool (av_bad (by rw [HL.out]; exact hlt) H.out).symm, below_step hbl hb1⟩
      · have HP := Lib.hid h1
        clear h1
        go_wp2_with fail
        refine (l3Place_any _ _ _).mono ?_
        rintro e w1 ⟨he, hb1⟩
        rw [HP.out] at he
        subst he
        have hbl1 := below_step hbl hb1
        have HD : Hid (∀ j, j < n → w1.cell? ⟨b, off + j * 2, none⟩ = some (.int .i64 (px ps j)) ∧ w1.cell? ⟨b, off + j * 2 + 1, none⟩ = some (.int .i64 (py ps j))) := fun j hj =>
          ⟨(hb1.cell (p := ⟨b, off + j * 2, none⟩) hb).trans (HC.out j hj).1, (hb1.cell (p := ⟨b, off + j * 2 + 1, none⟩) hb).trans (HC.out j hj).2⟩
        go_wp2
        go_loopw [4] (fun i wr => ∃ m : Nat, m ≤ k ∧ i = .int .i64 m ∧ (∀ j, j < m → ¬ (px ps j = px ps k ∧ py ps j = py ps k)) ∧ ∃ q, wr = w1.drewN q) (fun i _ => k - (intOf i).toNat)
        case atStart => exact ⟨0, Nat.zero_le _, rfl, fun j hj => absurd hj (by omega), 0, rfl⟩
        case round =>
          obtain ⟨m, hm, rfl, hx, q, rfl⟩ := hrel
          have HX := Lib.hid hx
          clear hx
          by_cases hmk : m < k
          · obtain ⟨d1, d2⟩ := HD.out k hlt
            obtain ⟨d3, d4⟩ := HD.out m (by omega)
            have hmn : m < n := by omega
            cases he : eqQAnt (px ps m) (py ps m) (px ps k) (py ps k)
            · have HE : Hid (¬ (px ps m = px ps k ∧ py ps m = py ps k)) := eqQAnt_f he
              go_wp2
              go_quiet (fail)
              go_wp2
              go_roundw
              case rel =>
                refine ⟨m + 1, by omega, by go_num, fun j hj => ?_, _, rfl⟩
                rcases Nat.lt_or_ge j m with h | h
                · exact HX.out j h
                · obtain rfl : j = m := by omega
                  exact HE.out
              case measure => simp [intOf]; omega
            · have H : Hid (antOk ps k = false) := by
                simp only [eqQAnt, decide_eq_true_eq] at he
                rw [Hid, ← Bool.not_eq_true, antOk_iff (by rw [HL.out]; exact hlt)]
                exact fun h => h.2 m hmk he
              go_wp2
              go_quiet (fail)
              go_wp2
              go_ret
              exact ⟨ret_bool (av_bad (by rw [HL.out]; exact hlt) H.out).symm, below_drewV (below_drewV hbl1 _) _⟩
          · obtain rfl : m = k := by omega
            have H : Hid (antOk ps m = true) := (antOk_iff (by rw [HL.out]; exact hlt)).2 ⟨HP.out, HX.out⟩
            go_wp2
            go_roundw
            case rel =>
              refine ⟨m + 1, by omega, by go_num, fun j hj => ?_, below_drewV hbl1 _⟩
              rcases Nat.lt_or_ge j m with h | h
              · exact HA.out j h
              · obtain rfl : j = m := by omega
                exact H.out
            case measure => simp [intOf]; omega
    · have H : Hid (avB ps = betB (n : Int) 2 7) := by rw [Hid, av_all fun j hj => HA.out j (by rw [HL.out] at hj; omega), HL.out]
      go_wp2_with fail
      refine (l6In_any _ _ _ _).mono ?_
      rintro e w' ⟨rfl, rfl⟩
      go_wp2
      go_ret
      exact ⟨ret_bool H.out.symm, hbl⟩

end Go.Proofs.Ytkmnjekpogbkkaa
