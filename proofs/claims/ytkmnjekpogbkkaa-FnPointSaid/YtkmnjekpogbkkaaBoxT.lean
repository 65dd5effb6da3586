/-
  Words for a struct of two integers in a block of its own that is known whole. No program in sight.
-/
import Derived.Test.YtkmnjekpogbkkaaNewP
import Derived.Test.YtkmnjekpogbkkaaReader
namespace Go.Proofs.Ytkmnjekpogbkkaa
open Go.RowKit
set_option linter.unusedVariables false

def BoxT (T : TypeId) (w : World) (a : Nat) (x y : Int) : Prop := w.heap[a]? = some (.cells #[.int .i64 x, .int .i64 y] T (0, 0))
section
variable {T : TypeId} {w w' : World} {a : Nat} {x y : Int} {row : Option Nat}
theorem BoxT.new (T : TypeId) (w : World) (x y : Int) : BoxT T (w.alloc (.cells #[.int .i64 x, .int .i64 y] T)) w.heap.size x y := heap_alloc_new w _
theorem BoxT.lt (h : BoxT T w a x y) : a < w.heap.size := heap_lt h
theorem BoxT.c0 (h : BoxT T w a x y) : w.cell? ⟨a, 0, none⟩ = some (.int .i64 x) := by rw [cell_of_row _ _ 0 _ _ _ h]; rfl
theorem BoxT.c1 (h : BoxT T w a x y) : w.cell? ⟨a, 1, none⟩ = some (.int .i64 y) := by rw [cell_of_row _ _ 1 _ _ _ h]; rfl
theorem BoxT.fz (h : BoxT T w a x y) (o : Nat) : w.frozen? ⟨a, o, none⟩ = false := by unfold BoxT at h; simp [World.frozen?, h]
theorem BoxT.box (h : BoxT T w a x y) : Box w a x y := ⟨h.lt, h.c0, h.c1⟩
theorem BoxT.off (h : BoxT T w a x y) (hg : w.grownBy w' row) (hr : ∀ k, row = some k → k ≠ a) : BoxT T w' a x y := (hg.block a h.lt (fun e => hr a e.symm rfl)).trans h
theorem BoxT.below (h : BoxT T w a x y) (hb : Below w.heap.size w w') : BoxT T w' a x y := (hb.block a h.lt).trans h
theorem BoxT.sety (h : BoxT T w a x y) (v : Int) : BoxT T (w.setCell ⟨a, 1, none⟩ (.int .i64 v)) a x v := by
  unfold BoxT at h ⊢
  simp [World.setCell, Array.getElem?_modify, h]
theorem BoxT.set2 (h : BoxT T w a x y) (u v : Int) : BoxT T ((w.setCell ⟨a, 0, none⟩ (.int .i64 u)).setCell ⟨a, 1, none⟩ (.int .i64 v)) a u v := by
  unfold BoxT at h ⊢
  simp [World.setCell, Array.getElem?_modify, h]
theorem BoxT.other (h : BoxT T w a x y) {b o : Nat} (hb : a ≠ b) (v : Value) : BoxT T (w.setCell ⟨b, o, none⟩ v) a x y := (Below.heap_setCell w _ _ a hb).trans h
theorem set_grown (w : World) (b o : Nat) (v : Value) : w.grownBy (w.setCell ⟨b, o, none⟩ v) (some b) := ⟨rfl, rfl, rfl, by simp, fun k _ hk => Below.heap_setCell w _ _ k (fun e => hk (by rw [e]))⟩
end
/-- The reader's block and blocks beyond 'base' alone are turned. -/
theorem grown_set {w w1 : World} {row : Option Nat} (h : w.grownBy w1 row) {b o : Nat} (hb : w.heap.size ≤ b) (v : Value) : w.grownBy (w1.setCell ⟨b, o, none⟩ v) row :=
  grown_ownP h (set_grown w1 b o v) (fun k e => by cases e; exact hb)
theorem Rdr.set {w : World} {g p : Nat} (h : Rdr w g p) {b o : Nat} (hb : g < b) (v : Value) : Rdr (w.setCell ⟨b, o, none⟩ v) g p := h.off (set_grown w b o v) (fun k e => by cases e; exact hb)

end Go.Proofs.Ytkmnjekpogbkkaa
