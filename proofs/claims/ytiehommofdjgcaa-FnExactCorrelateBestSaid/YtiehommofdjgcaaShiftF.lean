/-
  Plain facts on samples and their shifts; no program in sight but for the names of the contracts' functions.
-/
import Derived.Test.YtiehommofdjgcaaShift
namespace Go.Proofs.Ytiehommofdjgcaa
open Go.RowKit
set_option linter.unusedVariables false

theorem sv_len {zs : List Int} (h : svB zs = true) : 1 ≤ zs.length ∧ zs.length ≤ 32 := by
  simp only [svB, Bool.and_eq_true] at h
  have := betB_true.1 h.1
  omega
theorem sv_at {zs : List Int} (h : svB zs = true) {j : Nat} (hj : j < zs.length) : -1000 ≤ el zs j ∧ el zs j ≤ 1000 := by
  simp only [svB, Bool.and_eq_true] at h
  exact betB_true.1 (allIn_at h.2 hj)
theorem sv_mk {zs : List Int} (h1 : 1 ≤ zs.length) (h2 : zs.length ≤ 32) (h : ∀ j, j < zs.length → -1000 ≤ el zs j ∧ el zs j ≤ 1000) : svB zs = true := by
  simp only [svB, Bool.and_eq_true]
  exact ⟨betB_true.2 ⟨by omega, by omega⟩, allIn_true fun j hj => betB_true.2 (h j hj)⟩
theorem sh_ok {zs : List Int} {lag : Int} (h : shOk zs lag = true) : svB zs = true ∧ -1000 ≤ lag ∧ lag ≤ 1000 := by
  simp only [shOk, Bool.and_eq_true] at h
  exact ⟨h.1, betB_true.1 h.2⟩
theorem sh_ok_mk {zs : List Int} {lag : Int} (h : svB zs = true) (h1 : -1000 ≤ lag) (h2 : lag ≤ 1000) : shOk zs lag = true := by
  simp only [shOk, Bool.and_eq_true]
  exact ⟨h, betB_true.2 ⟨h1, h2⟩⟩
theorem sv_shl {zs : List Int} (lag : Int) (h : svB zs = true) : svB (shl zs lag) = true := by
  have hl := sv_len h
  refine sv_mk (by rw [shl_len]; omega) (by rw [shl_len]; omega) fun j hj => ?_
  rw [shl_len] at hj
  rw [shl_at hj]
  have h1 := cyc_ge (k := (j : Int) - lag) (n := zs.length) (by omega)
  have h2 := cyc_lt (k := (j : Int) - lag) (n := zs.length) (by omega)
  exact sv_at h (by omega)
theorem cyc_cyc (a b n : Int) : cyc (cyc a n + b) n = cyc (a + b) n := by unfold cyc; exact Int.emod_add_emod _ _ _
theorem shl_shl {zs : List Int} (a b : Int) : shl (shl zs a) b = shl zs (a + b) := by
  apply el_ext (by simp [shl_len])
  intro j hj
  rw [shl_len, shl_len] at hj
  have h1 := cyc_ge (k := (j : Int) - b) (n := zs.length) (by omega)
  have h2 := cyc_lt (k := (j : Int) - b) (n := zs.length) (by omega)
  rw [shl_at (by rw [shl_len]; exact hj), shl_len, shl_at (by omega), shl_at hj]
  congr 2
  rw [show ((cyc ((j : Int) - b) zs.length).toNat : Int) = cyc ((j : Int) - b) zs.length by omega, show cyc ((j : Int) - b) zs.length - a = cyc ((j : Int) - b) zs.length + -a by omega, cyc_cyc]
  congr 1
  omega
theorem shl_whole (zs : List Int) {a : Int} (h : a = 0 ∨ a = zs.length) : shl zs a = zs := by
  apply el_ext (by rw [shl_len])
  intro j hj
  rw [shl_len] at hj
  rw [shl_at hj]
  have : cyc ((j : Int) - a) zs.length = j := by
    rcases h with rfl | rfl
    · rw [Int.sub_zero]; exact cyc_small (by omega) (by omega)
    · unfold cyc; rw [Int.sub_emod_right]; exact Int.emod_eq_of_lt (by omega) (by omega)
  rw [this, Int.toNat_natCast]

end Go.Proofs.Ytiehommofdjgcaa
