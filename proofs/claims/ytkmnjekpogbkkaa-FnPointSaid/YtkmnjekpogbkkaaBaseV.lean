/-
  Contracts: impl.vector, BaseVector of the program and of the reference.
-/
import Derived.Test.YtkmnjekpogbkkaaArrV
import Derived.StillTailTactics
import Derived.IntWalk
namespace Go.Proofs.Ytkmnjekpogbkkaa
open Go.RowKit
set_option linter.unusedVariables false

/-- BaseVector. -/
def bvOk (ps : List (Int × Int)) (i j : Int) : Bool := avB ps && (isA ps.length i && isA ps.length j)
def bvX (ps : List (Int × Int)) (i j : Int) : Int := if bvOk ps i j then px ps j.toNat - px ps i.toNat else 0
def bvY (ps : List (Int × Int)) (i j : Int) : Int := if bvOk ps i j then py ps j.toNat - py ps i.toNat else 0
theorem bv_no {ps : List (Int × Int)} {i j : Int} (h : bvOk ps i j = false) : bvX ps i j = 0 ∧ bvY ps i j = 0 := by simp [bvX, bvY, h]
theorem bv_yes {ps : List (Int × Int)} {i j : Int} (h : bvOk ps i j = true) : bvX ps i j = px ps j.toNat - px ps i.toNat ∧ bvY ps i j = py ps j.toNat - py ps i.toNat := by simp [bvX, bvY, h]
theorem bv_true {ps : List (Int × Int)} {i j : Int} : bvOk ps i j = true ↔ avB ps = true ∧ isA ps.length i = true ∧ isA ps.length j = true := by simp only [bvOk, Bool.and_eq_true]
theorem bv_in (ps : List (Int × Int)) (i j : Int) : (-2000 ≤ bvX ps i j ∧ bvX ps i j ≤ 2000) ∧ (-2000 ≤ bvY ps i j ∧ bvY ps i j ≤ 2000) := by
  cases h : bvOk ps i j
  · rw [(bv_no h).1, (bv_no h).2]; omega
  · rw [(bv_yes h).1, (bv_yes h).2]
    obtain ⟨h1, h2, h3⟩ := bv_true.1 h
    obtain ⟨a, rfl, ha⟩ := isA_nat h2
    obtain ⟨b, rfl, hb⟩ := isA_nat h3
    have := av_in h1 (j := a) (by omega)
    have := av_in h1 (j := b) (by omega)
    simp only [Int.toNat_natCast]
    omega
theorem ret_sb {a b a' b' : Int} {p q : Bool} (h : a = a') (h' : b = b') (k : p = q) : Ending.returned (.tuple #[.agg #[.int .i64 a, .int .i64 b], .bool p]) = .returned (.tuple #[.agg #[.int .i64 a', .int .i64 b'], .bool q]) := by rw [h, h', k]
theorem below_drewB {B : Nat} {a w : World} (h : Below B a w) (n : Nat) : Below B a (w.drewN n) := ⟨h.os, h.tape, h.output, h.size, h.block⟩
theorem lawful_set2 {w : World} {a : Nat} {T : TypeId} {x y : Int} (h : w.heap[a]? = some (.cells #[.int .i64 x, .int .i64 y] T (0, 0))) (u v : Int) :
    ((w.setCell ⟨a, 0, none⟩ (.int .i64 u)).setCell ⟨a, 1, none⟩ (.int .i64 v)).heap[a]? = some (.cells #[.int .i64 u, .int .i64 v] T (0, 0)) := by
  simp [World.setCell, Array.getElem?_modify, h]
theorem row_c0 {w : World} {a : Nat} {T : TypeId} {x y : Int} (h : w.heap[a]? = some (.cells #[.int .i64 x, .int .i64 y] T (0, 0))) : w.cell? ⟨a, 0, none⟩ = some (.int .i64 x) := by rw [cell_of_row _ _ 0 _ _ _ h]; rfl
theorem row_c1 {w : World} {a : Nat} {T : TypeId} {x y : Int} (h : w.heap[a]? = some (.cells #[.int .i64 x, .int .i64 y] T (0, 0))) : w.cell? ⟨a, 1, none⟩ = some (.int .i64 y) := by rw [cell_of_row _ _ 1 _ _ _ h]; rfl
theorem row_fz {w : World} {a : Nat} {T : TypeId} {x y : Int} (h : w.heap[a]? = some (.cells #[.int .i64 x, .int .i64 y] T (0, 0))) (o : Nat) : w.frozen? ⟨a, o, none⟩ = false := by simp [World.frozen?, h]

theorem heap_lt' {w : World} {g : Nat} {o : Obj} (h : w.heap[g]? = some o) : g < w.heap.size := by
  rcases Nat.lt_or_ge g w.heap.size with hlt | hge
  · exact hlt
  · rw [Array.getElem?_eq_none hge] at h; cases h

end Go.Proofs.Ytkmnjekpogbkkaa
