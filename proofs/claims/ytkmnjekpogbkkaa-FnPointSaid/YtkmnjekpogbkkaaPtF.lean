/-
  Plain facts on the visibilities of a point source. No program in sight.
-/
import Derived.Test.YtkmnjekpogbkkaaArrF
import Derived.Test.YtkmnjekpogbkkaaVisPt
import Derived.Test.YtkmnjekpogbkkaaVisW
import Derived.Test.YtkmnjekpogbkkaaVisP
namespace Go.Proofs.Ytkmnjekpogbkkaa
open Go.RowKit
set_option linter.unusedVariables false

theorem mem_rowTo {i m : Nat} {p : Nat × Nat} (h : p ∈ rowTo i m) : p.1 = i ∧ i < p.2 ∧ p.2 < m := by
  simp only [rowTo, List.mem_map, List.mem_range] at h
  obtain ⟨t, ht, rfl⟩ := h
  exact ⟨rfl, by simp only; omega, by simp only; omega⟩
theorem mem_rows {N : Nat} {p : Nat × Nat} : ∀ {k : Nat}, p ∈ rows N k → p.1 < p.2 ∧ p.1 < k ∧ p.2 < N
  | 0, h => by simp [rows] at h
  | k + 1, h => by
    rw [rows, List.mem_append] at h
    rcases h with h | h
    · have := mem_rows h; omega
    · have := mem_rowTo h; omega
theorem rows_in {N : Nat} {p : Nat × Nat} (h : p ∈ rows N N) : p.1 < N ∧ p.2 < N := by have := mem_rows h; omega
theorem rows_all {N : Nat} (h1 : 2 ≤ N) (h2 : N ≤ 7) : ((rows N N).length : Int) = bm N := by
  obtain rfl | rfl | rfl | rfl | rfl | rfl : N = 2 ∨ N = 3 ∨ N = 4 ∨ N = 5 ∨ N = 6 ∨ N = 7 := by omega
  all_goals decide
theorem vpL_same {ps qs : List (Int × Int)} {x y u v amp : Int} {pre : List (Nat × Nat)} (h : ∀ p ∈ pre, dpV ps p.1 p.2 x y = dpV qs p.1 p.2 u v) : vpL ps x y amp pre = vpL qs u v amp pre := by
  unfold vpL
  refine List.map_congr_left fun p hp => ?_
  rw [h p hp]
theorem db_here {ps : List (Int × Int)} {x y : Int} {p : Nat × Nat} (h : avB ps = true) (hp : plc x y = true) (hm : p ∈ rows ps.length ps.length) : dbOk ps p.1 p.2 x y = true := by
  have := rows_in hm
  exact db_true.2 ⟨do_true.2 ⟨h, isA_true.2 (by omega), hp⟩, do_true.2 ⟨h, isA_true.2 (by omega), hp⟩⟩
theorem db_form {ps : List (Int × Int)} {x y : Int} {i j : Nat} (h : dbOk ps i j x y = true) : dbV ps i j x y = (px ps j * x + py ps j * y) - (px ps i * x + py ps i * y) := by
  obtain ⟨h1, h2⟩ := db_true.1 h
  rw [db_yes h, do_yes h1, do_yes h2, Int.toNat_natCast, Int.toNat_natCast]
theorem vp_cell {ps : List (Int × Int)} {x y amp : Int} {pre : List (Nat × Nat)} {k : Nat} (hk : k < pre.length) : px (vpL ps x y amp pre) k = amp ∧ py (vpL ps x y amp pre) k = dpV ps (pre[k].1 : Nat) (pre[k].2 : Nat) x y := by
  have hl : k < (vpL ps x y amp pre).length := by rw [vpL_len]; exact hk
  rw [px_lt hl, py_lt hl]
  simp [vpL]
/-- A shifted array. -/
theorem vp_shift {ps : List (Int × Int)} {x y amp u v : Int} (h : vpOk ps x y amp = true) (hs : asOk ps u v = true) : vpOk (ps.map (shF u v)) x y amp = true ∧ vpV (ps.map (shF u v)) x y amp = vpL ps x y amp (rows ps.length ps.length) := by
  obtain ⟨h1, h2, h3⟩ := vp_true.1 h
  have hok : vpOk (ps.map (shF u v)) x y amp = true := vp_true.2 ⟨(as_true.1 hs).2.2.2, h2, h3⟩
  refine ⟨hok, ?_⟩
  rw [vp_yes hok, List.length_map]
  refine vpL_same fun p hp => ?_
  rw [dpV, dpV, (db_shift (db_here h1 h2 hp) hs).2]
theorem vp_none {x y amp : Int} : vpOk [] x y amp = false := by rw [vpOk, show avB [] = false by rw [avB]; rfl]; rfl
/-- A source straight above. -/
theorem vp_zero {ps : List (Int × Int)} {x y amp : Int} (h : vpOk ps x y amp = true) : vpOk ps 0 0 amp = true ∧ ∀ k, py (vpV ps 0 0 amp) k = 0 := by
  obtain ⟨h1, h2, h3⟩ := vp_true.1 h
  have hp : plc 0 0 = true := by decide
  have hok : vpOk ps 0 0 amp = true := vp_true.2 ⟨h1, hp, h3⟩
  refine ⟨hok, fun k => ?_⟩
  rw [vp_yes hok]
  by_cases hk : k < (rows ps.length ps.length).length
  · rw [(vp_cell hk).2, dpV, db_form (db_here h1 hp (List.getElem_mem hk))]
    simp [cyc]
  · rw [py, List.getD_eq_getElem?_getD, List.getElem?_eq_none (by rw [vpL_len]; omega)]; rfl
/-- The opposite direction. -/
theorem vp_opp {ps : List (Int × Int)} {x y amp : Int} (h : vpOk ps x y amp = true) : vpOk ps (-x) (-y) amp = true ∧ vpOk (tuN ps 2) x y amp = true ∧ vpV (tuN ps 2) x y amp = vpV ps (-x) (-y) amp
    ∧ (vpV ps (-x) (-y) amp).length = (vpL ps x y amp (rows ps.length ps.length)).length ∧ ∀ k, k < (vpL ps x y amp (rows ps.length ps.length)).length → py (vpV ps (-x) (-y) amp) k = cyc (-(py (vpL ps x y amp (rows ps.length ps.length)) k)) 360 := by
  obtain ⟨h1, h2, h3⟩ := vp_true.1 h
  have hp := plc_true.1 h2
  have hp' : plc (-x) (-y) = true := plc_true.2 (by omega)
  have k1 : vpOk ps (-x) (-y) amp = true := vp_true.2 ⟨h1, hp', h3⟩
  have k2 : vpOk (tuN ps 2) x y amp = true := vp_true.2 ⟨av_tuN h1 2, h2, h3⟩
  refine ⟨k1, k2, ?_, ?_, ?_⟩
  · rw [vp_yes k1, vp_yes k2, tuN_len]
    refine vpL_same fun p hm => ?_
    have hi := rows_in hm
    have d1 := db_here h1 hp' hm
    have d2 := db_here (av_tuN h1 2) h2 (by rw [tuN_len]; exact hm)
    rw [dpV, dpV, db_form d1, db_form d2]
    have e : ∀ j, j < ps.length → px (tuN ps 2) j = -(px ps j) ∧ py (tuN ps 2) j = -(py ps j) := fun j hj => by
      show px ((ps.map tuF).map tuF) j = _ ∧ py ((ps.map tuF).map tuF) j = _
      have hj' : j < (ps.map tuF).length := by rw [List.length_map]; exact hj
      rw [px_map tuF hj', py_map tuF hj', px_map tuF hj, py_map tuF hj]
      simp [tuF]
    rw [(e _ hi.1).1, (e _ hi.1).2, (e _ hi.2).1, (e _ hi.2).2]
    simp only [Int.neg_mul, Int.mul_neg]
  · rw [vp_yes k1, vpL_len, vpL_len]
  · intro k hk
    rw [vpL_len] at hk
    rw [vp_yes k1, (vp_cell hk).2, (vp_cell hk).2]
    have hm := List.getElem_mem hk
    rw [dpV, dpV, db_form (db_here h1 hp' hm), db_form (db_here h1 h2 hm)]
    simp only [cyc, Int.mul_neg]
    omega
/-- Another amplitude. -/
theorem vp_valid {ps : List (Int × Int)} {x y amp : Int} (h : vpOk ps x y amp = true) : vvB ps.length (vpV ps x y amp) = true := by
  obtain ⟨h1, h2, h3⟩ := vp_true.1 h
  have hl := av_len h1
  rw [vp_yes h]
  have hb : betB (ps.length : Int) 2 7 = true := betB_true.2 (by omega)
  rw [vv_in hb (by rw [vpL_len]; exact rows_all hl.1 hl.2)]
  refine vAll_true fun j hj => ?_
  rw [vpL_len] at hj
  rw [(vp_cell hj).1, (vp_cell hj).2]
  have := dp_in ps ((rows ps.length ps.length)[j].1 : Nat) ((rows ps.length ps.length)[j].2 : Nat) x y
  simp only [vin, Bool.and_eq_true, betB_true]
  omega
theorem vp_amp {ps : List (Int × Int)} {x y amp k : Int} (h : vpOk ps x y amp = true) (hk1 : 1 ≤ k) (hk2 : k ≤ 1000000) : vpOk ps x y k = true ∧ phV ps.length (vpV ps x y k) = phV ps.length (vpL ps x y amp (rows ps.length ps.length)) ∧ px (vpV ps x y k) 0 = k ∧ 1 ≤ (vpV ps x y k).length := by
  obtain ⟨h1, h2, h3⟩ := vp_true.1 h
  have hl := av_len h1
  have hok : vpOk ps x y k = true := vp_true.2 ⟨h1, h2, hk1, hk2⟩
  have hr : 1 ≤ (rows ps.length ps.length).length := by
    have := rows_all hl.1 hl.2
    rcases bm_cases (n := (ps.length : Int)) (betB_true.2 (by omega)) with e | e | e | e | e | e <;> omega
  refine ⟨hok, ?_, ?_, ?_⟩
  · rw [← vp_yes h, ph_yes (vp_valid hok), ph_yes (vp_valid h), vp_yes hok, vp_yes h]
    simp [phs, vpL]
  · rw [vp_yes hok, (vp_cell (by omega)).1]
  · rw [vp_yes hok, vpL_len]; exact hr

end Go.Proofs.Ytkmnjekpogbkkaa
