/-
  More words for slices of structs of two integers: their cells, capacity, running marks. No program in sight.
-/
import Derived.Test.YtkmnjekpogbkkaaPairs
namespace Go.Proofs.Ytkmnjekpogbkkaa
open Go.RowKit
set_option linter.unusedVariables false

theorem Prs.cells {w : World} {b off m : Nat} {qs : List (Int × Int)} (h : Prs w (some ⟨b, off, none⟩) m qs) : ∀ j u, (flat qs)[j]? = some u → w.cell? ((⟨b, off, none⟩ : Addr).add j) = some u := by
  intro j u hj
  have hl := h.len
  have hlt : j < (flat qs).length := by
    rcases Nat.lt_or_ge j (flat qs).length with h | h
    · exact h
    · rw [List.getElem?_eq_none h] at hj; cases hj
  rw [flat_len] at hlt
  obtain ⟨b', off', e, hc⟩ := h.2 (by omega)
  injection e with e
  injection e with e1 e2
  subst e1 e2
  have ha : (⟨b, off, none⟩ : Addr).add j = ⟨b, off + j, none⟩ := by unfold Addr.add; split <;> simp_all
  rw [ha]
  have hf := flat_at (ps := qs) (j := j / 2) (by omega)
  have hcc := hc (j / 2) (by omega)
  rcases (by omega : j % 2 = 0 ∨ j % 2 = 1) with h0 | h0
  · have e1 : j / 2 * 2 = j := by omega
    rw [e1] at hf hcc
    rw [hf.1] at hj
    rw [hcc.1]; exact hj
  · have e1 : j / 2 * 2 + 1 = j := by omega
    have e2 : off + j / 2 * 2 + 1 = off + j := by omega
    rw [e1] at hf
    rw [e2] at hcc
    rw [hf.2] at hj
    rw [hcc.2]; exact hj
theorem OwnP.cap {T : TypeId} {w : World} {base : Nat} {A : Option Addr} {n c : Nat} {ps : List (Int × Int)} (h : OwnP T w base A n c ps) : n ≤ c := by
  rcases h.2 with ⟨h, h2⟩ | ⟨g', cap', cur, h, _, _, h5, _⟩
  · injection h with _ h2 h3; omega
  · injection h with _ h2 h3; omega
theorem OwnP.at0 {T : TypeId} {w : World} {base : Nat} {A : Option Addr} {n c : Nat} {ps : List (Int × Int)} (h : OwnP T w base A n c ps) (hn : 0 < n) : ∃ g, A = some ⟨g, 0, none⟩ ∧ g < w.heap.size ∧ base ≤ g := by
  obtain ⟨g, cap, hv, _, hlt⟩ := World.ownsRow.form h hn
  have hA : A = some ⟨g, 0, none⟩ := by injection hv
  subst hA
  exact ⟨g, rfl, hlt, (h.lt g rfl).1⟩
/-- A literal of one pair. -/
theorem OwnP.lit1 (T : TypeId) (w : World) (x y : Int) : OwnP T (w.alloc (.cells #[.int .i64 x, .int .i64 y] T)) w.heap.size (some ⟨w.heap.size, 0, none⟩) 1 1 [(x, y)] :=
  World.ownsRow_lit w #[.int .i64 x, .int .i64 y] 1 (Nat.le_refl _) (by simp [maxLen]) rfl

/-- The running numbers a, a + 1, .., as n pairs. -/
def marksP (a : Int) (n : Nat) : List (Int × Int) := (List.range n).map fun (j : Nat) => (a + 2 * (j : Int), a + 2 * (j : Int) + 1)
theorem marksP_len (a : Int) (n : Nat) : (marksP a n).length = n := by simp [marksP]
theorem marksP_x {a : Int} {n j : Nat} (h : j < n) : px (marksP a n) j = a + 2 * (j : Int) := by rw [px_lt (by rw [marksP_len]; exact h)]; simp [marksP]
theorem marksP_y {a : Int} {n j : Nat} (h : j < n) : py (marksP a n) j = a + 2 * (j : Int) + 1 := by rw [py_lt (by rw [marksP_len]; exact h)]; simp [marksP]
/-- The first k pairs replaced by running numbers. -/
def mixP (ps : List (Int × Int)) (a : Int) (k : Nat) : List (Int × Int) := marksP a k ++ ps.drop k
theorem mixP_zero (ps : List (Int × Int)) (a : Int) : mixP ps a 0 = ps := by simp [mixP, marksP]
theorem mixP_all {ps : List (Int × Int)} {n : Nat} (a : Int) (h : ps.length = n) : mixP ps a n = marksP a n := by simp [mixP, ← h]
theorem mixP_set {ps : List (Int × Int)} {n k : Nat} (a : Int) (h : ps.length = n) (hk : k < n) : (mixP ps a k).set k (a + 2 * (k : Int), a + 2 * (k : Int) + 1) = mixP ps a (k + 1) := by
  rw [mixP, mixP, List.set_append_right _ _ (by rw [marksP_len]; omega), marksP_len, Nat.sub_self, List.drop_eq_getElem_cons (by omega), List.set_cons_zero]
  simp [marksP, List.range_succ]
theorem map_snocP {ps : List (Int × Int)} (f : Int × Int → Int × Int) {k : Nat} (h : k < ps.length) : (ps.take (k + 1)).map f = (ps.take k).map f ++ [f (px ps k, py ps k)] := by
  rw [pair_snoc h, List.map_append]; rfl
theorem take_full {α : Type} {l : List α} {n : Nat} (h : l.length = n) : l.take n = l := List.take_of_length_le (by omega)
theorem px_map {ps : List (Int × Int)} (f : Int × Int → Int × Int) {j : Nat} (h : j < ps.length) : px (ps.map f) j = (f (px ps j, py ps j)).1 := by
  rw [px_lt (by simpa using h), px_lt h, py_lt h]; simp
theorem py_map {ps : List (Int × Int)} (f : Int × Int → Int × Int) {j : Nat} (h : j < ps.length) : py (ps.map f) j = (f (px ps j, py ps j)).2 := by
  rw [py_lt (by simpa using h), px_lt h, py_lt h]; simp
theorem px_take {ps : List (Int × Int)} {k j : Nat} (h : j < k) : px (ps.take k) j = px ps j := by simp [px, h]
theorem py_take {ps : List (Int × Int)} {k j : Nat} (h : j < k) : py (ps.take k) j = py ps j := by simp [py, h]

/-- In block a lies a struct of two integers. -/
def Box (w : World) (a : Nat) (x y : Int) : Prop := a < w.heap.size ∧ w.cell? ⟨a, 0, none⟩ = some (.int .i64 x) ∧ w.cell? ⟨a, 1, none⟩ = some (.int .i64 y)
theorem Box.new (w : World) (T : TypeId) (x y : Int) : Box (w.alloc (.cells #[.int .i64 x, .int .i64 y] T)) w.heap.size x y :=
  ⟨by simp, by rw [cell_of_row _ _ 0 _ _ _ (heap_alloc_new w _)]; rfl, by rw [cell_of_row _ _ 1 _ _ _ (heap_alloc_new w _)]; rfl⟩
theorem Box.below {w w' : World} {a : Nat} {x y : Int} (h : Box w a x y) (hb : Below w.heap.size w w') : Box w' a x y :=
  ⟨Nat.lt_of_lt_of_le h.1 hb.size, (hb.cell (p := ⟨a, 0, none⟩) h.1).trans h.2.1, (hb.cell (p := ⟨a, 1, none⟩) h.1).trans h.2.2⟩
theorem Box.drewN {w : World} {a : Nat} {x y : Int} (h : Box w a x y) (n : Nat) : Box (w.drewN n) a x y := h
theorem Box.drew {w : World} {a : Nat} {x y : Int} (h : Box w a x y) : Box w.drew a x y := h
theorem Prs.drew {w : World} {A : Option Addr} {n : Nat} {ps : List (Int × Int)} (h : Prs w A n ps) : Prs w.drew A n ps := h
theorem below_drew {B : Nat} {a w : World} (h : Below B a w) : Below B a w.drew := ⟨h.os, h.tape, h.output, h.size, h.block⟩
theorem below_undrew {B : Nat} {a w : World} (h : Below B a.drew w) : Below B a w := ⟨h.os, h.tape, h.output, h.size, h.block⟩
theorem below_alloc (w : World) (o : Obj) : Below w.heap.size w (w.alloc o) := (Below.refl _ _).alloc (Nat.le_refl _) _

/-- A call returns an integer and a bool; what was there is as it was. -/
def RetIB (w : World) (v : Int) (ok : Bool) (e : Ending) (w' : World) : Prop := e = .returned (.tuple #[.int .i64 v, .bool ok]) ∧ Below w.heap.size w w'
theorem ret_ib {a b : Int} {p q : Bool} (h : a = b) (k : p = q) : Ending.returned (.tuple #[.int .i64 a, .bool p]) = .returned (.tuple #[.int .i64 b, .bool q]) := by rw [h, k]
/-- A call returns a struct of two integers and a bool. -/
def RetSB (w : World) (x y : Int) (ok : Bool) (e : Ending) (w' : World) : Prop := e = .returned (.tuple #[.agg #[.int .i64 x, .int .i64 y], .bool ok]) ∧ Below w.heap.size w w'

end Go.Proofs.Ytkmnjekpogbkkaa
