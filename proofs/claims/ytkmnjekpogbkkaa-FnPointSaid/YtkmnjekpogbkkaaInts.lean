/-
  Words for slices of integers in memory of one's own; append onto them; make.
-/
import Derived.Test.YtkmnjekpogbkkaaProg
import Derived.Test.YtkmnjekpogbkkaaWords
import Derived.Deep.QuietTactic
import Derived.BigQuiet
namespace Go.Proofs.Ytkmnjekpogbkkaa
open Go.RowKit
set_option linter.unusedVariables false

theorem infoI : (Try.prog.info? 3).map (fun i => (i.zero, i.size, i.bytes)) = some (some (.int .i64 0), 1, 8) := by kernel_rfl

/-- A slice of integers in memory of one's own, from block 'base' on. -/
def OwnI (w : World) (base : Nat) (A : Option Addr) (n c : Nat) (zs : List Int) : Prop := w.ownsRow base 3 1 (.slice A n c) n (zs.map (Value.int .i64))
theorem OwnI.ints {w : World} {base : Nat} {A : Option Addr} {n c : Nat} {zs : List Int} (h : OwnI w base A n c zs) : Ints w A n zs := ints_of_own h
theorem OwnI.below {w w' : World} {base : Nat} {A : Option Addr} {n c : Nat} {zs : List Int} (h : OwnI w base A n c zs) (hb : Below w.heap.size w w') : OwnI w' base A n c zs := by
  refine ⟨h.1, ?_⟩
  rcases h.2 with h2 | ⟨g, cap, cur, hv, hg, hh, r⟩
  · exact .inl h2
  · refine .inr ⟨g, cap, cur, hv, hg, ?_, r⟩
    have hlt : g < w.heap.size := by
      rcases Nat.lt_or_ge g w.heap.size with hlt | hge
      · exact hlt
      · rw [Array.getElem?_eq_none hge] at hh; cases hh
    rw [hb.block g hlt]; exact hh
theorem OwnI.mono {w : World} {base base' : Nat} {A : Option Addr} {n c : Nat} {zs : List Int} (h : OwnI w base A n c zs) (hb : base' ≤ base) : OwnI w base' A n c zs := by
  refine ⟨h.1, ?_⟩
  rcases h.2 with h2 | ⟨g, cap, cur, hv, hg, r⟩
  · exact .inl h2
  · exact .inr ⟨g, cap, cur, hv, by omega, r⟩

theorem OwnI.cell_ {w : World} {base g n c k : Nat} {zs : List Int} (h : OwnI w base (some ⟨g, 0, none⟩) n c zs) (hk : k < n) : ∃ old, w.cell? ⟨g, k, none⟩ = some old := by
  have hl : k < (zs.map (Value.int .i64)).length := by have := h.1; omega
  exact ⟨_, (World.ownsRow.cellAt h k (by omega)).trans (List.getElem?_eq_getElem hl)⟩

/-- An owned row is kept where only a block below its base has changed. -/
theorem OwnI.off {w w' : World} {base : Nat} {A : Option Addr} {n c : Nat} {zs : List Int} {row : Option Nat} (h : OwnI w base A n c zs) (hg : w.grownBy w' row) (hr : ∀ k, row = some k → k < base) : OwnI w' base A n c zs :=
  World.ownsRow.kept h hg (by
    cases e : (Value.slice A n c).ownBlock with
    | none => exact .inl rfl
    | some k => exact .inr (fun e' => by have h1 := (World.ownsRow.lt h k e).1; have h2 := hr k e'.symm; omega))
theorem OwnI.far {w w' : World} {base : Nat} {A : Option Addr} {n c : Nat} {zs : List Int} {row : Option Nat} (h : OwnI w base A n c zs) (hg : w.grownBy w' row) (hr : ∀ k, (Value.slice A n c).ownBlock = some k → row = some k → False) : OwnI w' base A n c zs :=
  World.ownsRow.kept h hg (by
    cases e : (Value.slice A n c).ownBlock with
    | none => exact .inl rfl
    | some k => exact .inr (fun e' => hr k e e'.symm))
theorem OwnI.lt {w : World} {base : Nat} {A : Option Addr} {n c : Nat} {zs : List Int} (h : OwnI w base A n c zs) : ∀ k, (Value.slice A n c).ownBlock = some k → base ≤ k ∧ k < w.heap.size := World.ownsRow.lt h
theorem OwnI.len {w : World} {base : Nat} {A : Option Addr} {n c : Nat} {zs : List Int} (h : OwnI w base A n c zs) : zs.length = n := by simpa using h.1
theorem OwnI.nil (w : World) (base : Nat) : OwnI w base none 0 0 [] := World.ownsRow_nil w base _ _
/-- An empty literal. -/
theorem OwnI.lit0 (w : World) {base : Nat} (hb : base ≤ w.heap.size) : OwnI (w.alloc (.cells #[] 3)) base (some ⟨w.heap.size, 0, none⟩) 0 0 [] := World.ownsRow_lit w #[] 0 hb (by simp [maxLen]) rfl

/-- append(out, z) onto a row of one's own. -/
theorem wpList_appendI {ops : Array Oper} {rest : List Oper} {o : Oper} {a : Act} {Q : Exit → Act → World → Prop} (hgd : o.guard = none) (s x : Operand)
    (ho : o.op = .call { callee := .builtin .append, args := #[s, x], argTypes := #[45, 45] })
    (W : World) (base : Nat) (A : Option Addr) (n c : Nat) (zs : List Int) (z : Int) (hs : a.eval s = .slice A n c) (hx : a.eval x = .slice (some ⟨W.heap.size, 0, none⟩) 1 1)
    (hO : OwnI W base A n c zs) (hn : n ≤ 1048577) (hb : base ≤ W.heap.size)
    (h : ∀ A' c' w', OwnI w' base A' (n + 1) c' (zs ++ [z]) → W.grownBy w' (Value.slice A n c).ownBlock → wpList Try.prog ops Q rest (a.put o.dst (.slice A' (n + 1) c')) w') :
    wpList Try.prog ops Q (o :: rest) a (W.alloc (.cells #[.int .i64 z] 3)) := by
  obtain ⟨i0, hi, hz0, hz1, hz2⟩ := info_parts infoI
  refine wpList_append_own _ hgd s x 45 ho base 3 i0 (.int .i64 0) 1 8 Try.underlying45 hi hz0 hz1 hz2 rfl (by decide) (.slice A n c) n _ hs (World.ownsRow.alloc hO _) ⟨W.heap.size, 0, none⟩ 1 1 [.int .i64 z] hx rfl
    (cell_one_new _ _ _) (by simp [Value.oneCell']) (by simp only [maxLen]; omega) (by omega) (by simp; omega) ?_
  intro v' w' hown hg _
  obtain ⟨g, cap, hv, _, _⟩ := World.ownsRow.form hown (by omega)
  subst hv
  refine h _ _ _ (by unfold OwnI; rw [List.map_append]; exact hown) ⟨hg.os, hg.tape, hg.output, Nat.le_trans (by simp) hg.size, fun k hk hne => (hg.block k (by simp; omega) hne).trans (Below.heap_alloc W _ k hk)⟩

/-- A call returns one slice of integers in new memory; what was there is as it was. -/
def RetRow (w : World) (zs : List Int) (e : Ending) (w' : World) : Prop :=
  ∃ A n c, e = .returned (.slice A n c) ∧ OwnI w' w.heap.size A n c zs ∧ Below w.heap.size w w'

/-- A call returns a slice of integers in new memory and a bool. -/
def RetRowB (w : World) (zs : List Int) (ok : Bool) (e : Ending) (w' : World) : Prop :=
  ∃ A n c, e = .returned (.tuple #[.slice A n c, .bool ok]) ∧ OwnI w' w.heap.size A n c zs ∧ Below w.heap.size w w'

def zerosA (n : Nat) : Array Value := Array.replicate n (.int .i64 0)
theorem run_makeI (n : Nat) (hn : n ≤ 1048577) (w : World) : (Instr.makeSlice 45 (.int .i64 (n : Int)) (.int .i64 (n : Int))).run Try.prog w =
    .ok (.slice (some ⟨w.heap.size, 0, none⟩) n n) (w.alloc (.cells (zerosA n) 3)) := by
  obtain ⟨i0, hi, hz0, hz1, hz2⟩ := info_parts infoI
  have hr := run_make (P := Try.prog) w 45 3 i0 _ Try.underlying45 hi hz0 .i64 .i64 n n (by omega) (by omega) (by rw [hz2]; omega) (by omega)
  simp only [Int.toNat_natCast] at hr
  rw [hr, hz1, Nat.mul_one]
  congr 3
  apply Array.ext
  · simp [madeCells, zerosA]
  · intro i h1 h2
    simp [madeCells, zerosA, Value.cells, Nat.mod_one]

/-- Whether two lists are one. -/
def eqL (zs ys : List Int) : Bool := decide (zs = ys)
theorem eqL_self (zs : List Int) : eqL zs zs = true := by simp [eqL]
theorem eqL_len {zs ys : List Int} (h : zs.length ≠ ys.length) : eqL zs ys = false := by
  simp only [eqL, decide_eq_false_iff_not]; intro e; exact h (by rw [e])
theorem eqL_at {zs ys : List Int} {k : Nat} (h : el zs k ≠ el ys k) : eqL zs ys = false := by
  simp only [eqL, decide_eq_false_iff_not]; intro e; exact h (by rw [e])
theorem el_ext {zs ys : List Int} (hl : zs.length = ys.length) (h : ∀ j, j < zs.length → el zs j = el ys j) : zs = ys := by
  apply List.ext_getElem hl
  intro j h1 h2
  have := h j h1
  rwa [el_lt h1, el_lt h2] at this
theorem eqL_all {zs ys : List Int} (hl : zs.length = ys.length) (h : ∀ j, j < zs.length → el zs j = el ys j) : eqL zs ys = true := by
  simp only [eqL, decide_eq_true_eq]; exact el_ext hl h

end Go.Proofs.Ytkmnjekpogbkkaa
