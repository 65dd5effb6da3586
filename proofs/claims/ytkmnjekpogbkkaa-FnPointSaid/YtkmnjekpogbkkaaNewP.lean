/-
  Words for drawn slices of structs: they read as pairs and lie in new memory. No program in sight.
-/
import Derived.Test.YtkmnjekpogbkkaaPairsB
namespace Go.Proofs.Ytkmnjekpogbkkaa
open Go.RowKit
set_option linter.unusedVariables false

theorem grown_belowP {w w1 w2 : World} {row : Option Nat} (h : w.grownBy w1 row) (hb : Below w1.heap.size w1 w2) : w.grownBy w2 row :=
  ⟨hb.os.trans h.os, hb.tape.trans h.tape, hb.output.trans h.output, Nat.le_trans h.size hb.size, fun k hk hne => (hb.block k (Nat.lt_of_lt_of_le hk h.size)).trans (h.block k hk hne)⟩
theorem grown_ownP {w w1 w2 : World} {row row' : Option Nat} (h : w.grownBy w1 row) (h2 : w1.grownBy w2 row') (hr : ∀ k, row' = some k → w.heap.size ≤ k) : w.grownBy w2 row :=
  ⟨h2.os.trans h.os, h2.tape.trans h.tape, h2.output.trans h.output, Nat.le_trans h.size h2.size, fun k hk hne => (h2.block k (Nat.lt_of_lt_of_le hk h.size) (fun e => by have := hr k e.symm; omega)).trans (h.block k hk hne)⟩
theorem below_grownP {w w1 w2 : World} {g : Nat} (h : Below w.heap.size w w1) (hg : w1.grownBy w2 (some g)) (hle : w.heap.size ≤ g) : Below w.heap.size w w2 :=
  h.grown hg h.size (fun k e => by cases e; exact hle)

/-- The slice value '.slice A n c' reads, in w, as the pairs ps, and lies at or beyond block 'base'. -/
def NewP (w : World) (base : Nat) (A : Option Addr) (n c : Nat) (ps : List (Int × Int)) : Prop :=
  Prs w A n ps ∧ n ≤ c ∧ ∀ b off, A = some ⟨b, off, none⟩ → 0 < n → base ≤ b
section
variable {T : TypeId} {w w' : World} {base base' : Nat} {A : Option Addr} {n c : Nat} {ps : List (Int × Int)}
theorem NewP.prs (h : NewP w base A n c ps) : Prs w A n ps := h.1
theorem NewP.len (h : NewP w base A n c ps) : ps.length = n := h.1.len
theorem NewP.cap (h : NewP w base A n c ps) : n ≤ c := h.2.1
theorem NewP.below (h : NewP w base A n c ps) (hb : Below w.heap.size w w') : NewP w' base A n c ps := ⟨h.1.below hb, h.2⟩
theorem NewP.mono (h : NewP w base A n c ps) (hb : base' ≤ base) : NewP w base' A n c ps := ⟨h.1, h.2.1, fun b off e hn => Nat.le_trans hb (h.2.2 b off e hn)⟩
theorem NewP.drewN (h : NewP w base A n c ps) (k : Nat) : NewP (w.drewN k) base A n c ps := h
theorem OwnP.newP (h : OwnP T w base A n c ps) : NewP w base A n c ps := ⟨h.prs, h.cap, fun b off e hn => by
  obtain ⟨g, e', _, hb⟩ := h.at0 hn
  rw [e] at e'; injection e' with e'; injection e' with e1 e2
  rw [e1]; exact hb⟩
theorem NewP.off {row : Option Nat} (h : NewP w base A n c ps) (hg : w.grownBy w' row) (hr : ∀ k, row = some k → k < base) : NewP w' base A n c ps := by
  refine ⟨⟨h.1.1, fun hn => ?_⟩, h.2⟩
  obtain ⟨b, off, e, hlt, hc⟩ := h.1.at_ hn
  have hb := h.2.2 b off e hn
  have hblk := hg.block b hlt (fun e' => by have := hr b e'.symm; omega)
  exact ⟨b, off, e, fun j hj => ⟨(World.cell?_of_block (w := w) (a := ⟨b, off + j * 2, none⟩) hblk).trans (hc j hj).1, (World.cell?_of_block (w := w) (a := ⟨b, off + j * 2 + 1, none⟩) hblk).trans (hc j hj).2⟩⟩
theorem NewP.cut {k : Nat} (h : NewP w base A n c ps) (hk : k ≤ n) : NewP w base A k c (ps.take k) := ⟨h.1.cut hk, by have := h.cap; omega, fun b off e hn => h.2.2 b off e (by omega)⟩
end
/-- A slice from its second element on. -/
theorem OwnP.tail {T : TypeId} {w : World} {base g n c : Nat} {ps : List (Int × Int)} (h : OwnP T w base (some ⟨g, 0, none⟩) (n + 1) c ps) : NewP w base (some ⟨g, 2, none⟩) n (c - 1) ps.tail := by
  have hl := h.len
  have hcap := h.cap
  obtain ⟨g', e', _, hb⟩ := h.at0 (by omega)
  injection e' with e'; injection e' with e1 e2
  subst e1
  refine ⟨⟨by rw [List.length_tail]; omega, fun hn => ⟨g, 2, rfl, fun j hj => ?_⟩⟩, by omega, fun b off e _ => by injection e with e; injection e with e1 e2; rw [← e1]; exact hb⟩
  obtain ⟨b, off, e, hc⟩ := h.prs.2 (by omega)
  injection e with e; injection e with e1 e2
  subst e1 e2
  have hcc := hc (j + 1) (by omega)
  have h1 : px ps.tail j = px ps (j + 1) := by simp [px, List.getD_eq_getElem?_getD]
  have h2 : py ps.tail j = py ps (j + 1) := by simp [py, List.getD_eq_getElem?_getD]
  rw [h1, h2, show 2 + j * 2 = 0 + (j + 1) * 2 by omega]
  exact hcc
/-- One of its two cells stored. -/
theorem OwnP.stored {T : TypeId} {w : World} {base g n c k : Nat} {ps : List (Int × Int)} (h : OwnP T w base (some ⟨g, 0, none⟩) n c ps) (hk : k < n) (z : Int) :
    (OwnP T (w.setCell ⟨g, k * 2, none⟩ (.int .i64 z)) base (some ⟨g, 0, none⟩) n c (ps.set k (z, py ps k)) ∧ w.grownBy (w.setCell ⟨g, k * 2, none⟩ (.int .i64 z)) (some g)) ∧
    (OwnP T (w.setCell ⟨g, k * 2 + 1, none⟩ (.int .i64 z)) base (some ⟨g, 0, none⟩) n c (ps.set k (px ps k, z)) ∧ w.grownBy (w.setCell ⟨g, k * 2 + 1, none⟩ (.int .i64 z)) (some g)) := by
  have hl := h.len
  have hf := flat_at (ps := ps) (j := k) (by omega)
  have h1 := World.ownsRow.stored h (k * 2) (.int .i64 z)
  have h2 := World.ownsRow.stored h (k * 2 + 1) (.int .i64 z)
  have key : ∀ (L : List Value) (i : Nat) (v : Value), L[i]? = some v → L.set i v = L := by
    intro L i v h
    apply List.ext_getElem?
    intro j
    rw [List.getElem?_set]
    by_cases e : i = j
    · subst e
      rw [if_pos rfl, h]
      split
      · rfl
      · rw [List.getElem?_eq_none (by omega)] at h; cases h
    · rw [if_neg e]
  have e1 : (flat ps).set (k * 2) (.int .i64 z) = flat (ps.set k (z, py ps k)) := by
    rw [← flat_set (by omega), key _ (k * 2 + 1) _ (by rw [List.getElem?_set, if_neg (by omega)]; exact hf.2)]
  have e2 : (flat ps).set (k * 2 + 1) (.int .i64 z) = flat (ps.set k (px ps k, z)) := by
    rw [← flat_set (by omega), key (flat ps) (k * 2) _ hf.1]
  refine ⟨⟨?_, h1.2⟩, ⟨?_, h2.2⟩⟩
  · unfold OwnP; rw [← e1]; exact h1.1
  · unfold OwnP; rw [← e2]; exact h2.1

/-- The first pair stored, whole or its first number. -/
theorem OwnP.first2 {T : TypeId} {w : World} {base g n c : Nat} {ps : List (Int × Int)} (h : OwnP T w base (some ⟨g, 0, none⟩) n c ps) (hn : 0 < n) (x y : Int) :
    OwnP T ((w.setCell ⟨g, 0, none⟩ (.int .i64 x)).setCell ⟨g, 1, none⟩ (.int .i64 y)) base (some ⟨g, 0, none⟩) n c (ps.set 0 (x, y)) ∧ w.grownBy ((w.setCell ⟨g, 0, none⟩ (.int .i64 x)).setCell ⟨g, 1, none⟩ (.int .i64 y)) (some g) := by
  have h1 := World.ownsRow.stored h 0 (.int .i64 x)
  have h2 := World.ownsRow.stored h1.1 1 (.int .i64 y)
  exact ⟨h.stored2 (x := x) (y := y) hn, h1.2.trans h2.2⟩
theorem OwnP.first1 {T : TypeId} {w : World} {base g n c : Nat} {ps : List (Int × Int)} (h : OwnP T w base (some ⟨g, 0, none⟩) n c ps) (hn : 0 < n) (x : Int) :
    OwnP T (w.setCell ⟨g, 0, none⟩ (.int .i64 x)) base (some ⟨g, 0, none⟩) n c (ps.set 0 (x, py ps 0)) ∧ w.grownBy (w.setCell ⟨g, 0, none⟩ (.int .i64 x)) (some g) := (h.stored hn x).1
theorem OwnP.first1y {T : TypeId} {w : World} {base g n c : Nat} {ps : List (Int × Int)} (h : OwnP T w base (some ⟨g, 0, none⟩) n c ps) (hn : 0 < n) (y : Int) :
    OwnP T (w.setCell ⟨g, 1, none⟩ (.int .i64 y)) base (some ⟨g, 0, none⟩) n c (ps.set 0 (px ps 0, y)) ∧ w.grownBy (w.setCell ⟨g, 1, none⟩ (.int .i64 y)) (some g) := (h.stored hn y).2

end Go.Proofs.Ytkmnjekpogbkkaa
