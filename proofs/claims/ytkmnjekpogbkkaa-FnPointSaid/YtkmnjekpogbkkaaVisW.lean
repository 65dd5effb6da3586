/-
  Contracts: VisValid and GainsValid of the program and of the reference.
-/
import Derived.Test.YtkmnjekpogbkkaaVisV
namespace Go.Proofs.Ytkmnjekpogbkkaa
open Go.RowKit
set_option linter.unusedVariables false

def vvB (n : Int) (ps : List (Int × Int)) : Bool := betB n 2 7 && (decide ((ps.length : Int) = bm n) && vAll ps 1000000)
def gvB (n : Int) (ps : List (Int × Int)) : Bool := betB n 2 7 && (decide ((ps.length : Int) = n) && vAll ps 99)
theorem gv_many {n : Int} {ps : List (Int × Int)} (h : betB n 2 7 = false) : gvB n ps = false := by simp [gvB, h]
theorem gv_len {n : Int} {ps : List (Int × Int)} (h : (ps.length : Int) ≠ n) : gvB n ps = false := by simp [gvB, h]
theorem gv_in {n : Int} {ps : List (Int × Int)} (h : betB n 2 7 = true) (h' : (ps.length : Int) = n) : gvB n ps = vAll ps 99 := by simp [gvB, h, h']
theorem vv_many {n : Int} {ps : List (Int × Int)} (h : betB n 2 7 = false) : vvB n ps = false := by simp [vvB, h]
theorem vv_len {n : Int} {ps : List (Int × Int)} (h : (ps.length : Int) ≠ bm n) : vvB n ps = false := by simp [vvB, h]
theorem vv_in {n : Int} {ps : List (Int × Int)} (h : betB n 2 7 = true) (h' : (ps.length : Int) = bm n) : vvB n ps = vAll ps 1000000 := by simp [vvB, h, h']

set_option maxHeartbeats 1000000 in
theorem iVisV_any (n : Int) (A : Option Addr) (m c : Nat) (ps : List (Int × Int)) (w : World) (hz : Prs w A m ps) (hm : m ≤ 1048577) :
    Calls Try.prog 18 #[.int .i64 n, .slice A m c] w fun e w' => e = .returned (.bool (vvB n ps)) ∧ Below w.heap.size w w' := by
  have HL := Lib.hid hz.len
  cases hB : betB n 2 7
  · have H := Lib.hid (vv_many (ps := ps) hB)
    go_enter Try.func18, Try.ntmps18
    go_wp2_with (go_at_call 45; refine (isMany_any _ _).mono ?_; rintro e w' ⟨rfl, rfl⟩)
    go_ret
    exact ⟨ret_bool H.out.symm, Below.refl _ _⟩
  · by_cases hl : (m : Int) = bm n
    · have H := Lib.hid (vv_in (ps := ps) hB (by rw [HL.out]; exact hl))
      have hE : ((m : Int) == bm n) = true := by simp [hl]
      have HBB := Lib.hid hB
      clear hl hB
      go_enter Try.func18, Try.ntmps18
      go_wp2_with fail
      refine (isMany_any _ _).mono ?_
      rintro e w' ⟨he, rfl⟩
      rw [HBB.out] at he
      subst he
      go_wp2_with fail
      refine (iBaseMany_any _ _).mono ?_
      rintro e w' ⟨rfl, rfl⟩
      go_wp2_with fail
      refine (visInRange_any _ _ _ ps _ _ hz hm).mono ?_
      rintro e w1 ⟨rfl, hb1⟩
      go_wp2
      go_ret
      exact ⟨ret_bool (by rw [H.out]), hb1⟩
    · have H := Lib.hid (vv_len (n := n) (ps := ps) (by rw [HL.out]; exact hl))
      have hE : ((m : Int) == bm n) = false := by simp [hl]
      have HBB := Lib.hid hB
      clear hl hB
      go_enter Try.func18, Try.ntmps18
      go_wp2_with fail
      refine (isMany_any _ _).mono ?_
      rintro e w' ⟨he, rfl⟩
      rw [HBB.out] at he
      subst he
      go_wp2_with fail
      refine (iBaseMany_any _ _).mono ?_
      rintro e w' ⟨rfl, rfl⟩
      go_wp2
      go_ret
      exact ⟨ret_bool H.out.symm, Below.refl _ _⟩

end Go.Proofs.Ytkmnjekpogbkkaa
