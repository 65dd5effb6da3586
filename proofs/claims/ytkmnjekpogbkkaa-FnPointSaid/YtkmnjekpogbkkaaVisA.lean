/-
  Slices of structs (Vis) of one's own: append onto them.
-/
import Derived.Test.YtkmnjekpogbkkaaProg
import Derived.Test.YtkmnjekpogbkkaaPairsB
import Derived.Deep.QuietTactic
import Derived.BigQuiet
import Derived.Laws.AppendOwnNone
namespace Go.Proofs.Ytkmnjekpogbkkaa
open Go.RowKit
set_option linter.unusedVariables false

theorem infoVisA : (Try.prog.info? 35).map (fun i => (i.zero, i.size, i.bytes)) = some (some (.agg #[.int .i64 0, .int .i64 0]), 2, 16) := by kernel_rfl

theorem wpList_wantedVis {P : Program} {ops : Array Oper} {Q : Exit → Act → World → Prop} {a : Act} {w : World} {rest : List Oper} {o : Oper} (hw : Region.wanted o (yielded ops a.tmps) = true)
    (h : ∀ K : Act → World → Prop, (∀ a w, wpList P ops Q rest a w → K a w) → o.wp P a w K Q) : wpList P ops Q (o :: rest) a w :=
  wpList_step fun K hK => by rw [if_pos hw]; exact h K hK

/-- append(dst, src...) where dst is a row of one's own and src reads as pairs. -/
theorem wpList_appendVis {ops : Array Oper} {rest : List Oper} {o : Oper} {a : Act} {Q : Exit → Act → World → Prop} (hw : Region.wanted o (yielded ops a.tmps) = true) (s x : Operand)
    (ho : o.op = .call { callee := .builtin .append, args := #[s, x], argTypes := #[28, 28] })
    (W : World) (base : Nat) (A : Option Addr) (n c : Nat) (ps : List (Int × Int)) (b off m d : Nat) (qs : List (Int × Int)) (hs : a.eval s = .slice A n c) (hx : a.eval x = .slice (some ⟨b, off, none⟩) m d)
    (hO : OwnP 35 W base A n c ps) (hS : Prs W (some ⟨b, off, none⟩) m qs) (hn : n + m ≤ 2097155) (hb : base ≤ W.heap.size)
    (h : ∀ A' c' w', OwnP 35 w' base A' (n + m) c' (ps ++ qs) → W.grownBy w' (Value.slice A n c).ownBlock → wpList Try.prog ops Q rest (a.put o.dst (.slice A' (n + m) c')) w') :
    wpList Try.prog ops Q (o :: rest) a W := by
  obtain ⟨i0, hi, hz0, hz1, hz2⟩ := info_parts infoVisA
  refine wpList_wantedVis hw fun K hK => wp_append_own W s x 28 ho base 35 i0 (.agg #[.int .i64 0, .int .i64 0]) 2 16 Try.underlying28 hi hz0 hz1 hz2 rfl (by decide) (.slice A n c) n _ hs hO ⟨b, off, none⟩ m d (flat qs) hx (by rw [flat_len, hS.len])
      hS.cells flat_one_cell (by simp only [maxLen]; omega) (by omega) hb ?_
  intro v' w' hown hg _
  refine hK _ _ ?_
  rcases hown.2 with ⟨hv, hnm⟩ | ⟨g', cap', cur', hv, r⟩
  · subst hv
    have hnm' : n + m = 0 := hnm
    have e1 : (Value.slice none 0 0) = .slice none (n + m) 0 := by rw [hnm']
    rw [e1] at hown ⊢
    exact h _ _ _ (by unfold OwnP; rw [flat_append]; exact hown) hg
  · subst hv
    exact h _ _ _ (by unfold OwnP; rw [flat_append]; exact hown) hg

/-- append(dst, T{x, y}). -/
theorem wpList_append1Vis {ops : Array Oper} {rest : List Oper} {o : Oper} {a : Act} {Q : Exit → Act → World → Prop} (hw : Region.wanted o (yielded ops a.tmps) = true) (s x : Operand)
    (ho : o.op = .call { callee := .builtin .append, args := #[s, x], argTypes := #[28, 28] })
    (W : World) (base : Nat) (A : Option Addr) (n c : Nat) (ps : List (Int × Int)) (u v : Int) (H : Nat) (hH : W.heap.size = H) (hs : a.eval s = .slice A n c) (hx : a.eval x = .slice (some ⟨H, 0, none⟩) 1 1)
    (hO : OwnP 35 W base A n c ps) (hn : n ≤ 1048577) (hb : base ≤ W.heap.size)
    (h : ∀ A' c' w', OwnP 35 w' base A' (n + 1) c' (ps ++ [(u, v)]) → W.grownBy w' (Value.slice A n c).ownBlock → wpList Try.prog ops Q rest (a.put o.dst (.slice A' (n + 1) c')) w') :
    wpList Try.prog ops Q (o :: rest) a (W.alloc (.cells #[.int .i64 u, .int .i64 v] 35)) := by
  subst hH
  have hb1 : Below W.heap.size W (W.alloc (.cells #[.int .i64 u, .int .i64 v] 35)) := (Below.refl _ _).alloc (Nat.le_refl _) _
  refine wpList_appendVis hw s x ho _ base A n c ps W.heap.size 0 1 1 [(u, v)] hs hx (hO.below hb1) (OwnP.lit1 _ W u v).prs (by omega) (by simp; omega) ?_
  intro A' c' w' hO' hg
  exact h A' c' w' hO' ⟨hg.os, hg.tape, hg.output, Nat.le_trans (by simp) hg.size, fun k hk hne => (hg.block k (by simp; omega) hne).trans (Below.heap_alloc W _ k hk)⟩

/-- append(dst, T{x, y}), at a step of a region that draws its order. -/
theorem step_append1Vis {ops : Array Oper} {o : Oper} {a : Act} {K : Act → World → Prop} {Q : Exit → Act → World → Prop} {E : Prop} (hgd : o.guard = none) (s x : Operand)
    (ho : o.op = .call { callee := .builtin .append, args := #[s, x], argTypes := #[28, 28] })
    (W : World) (base : Nat) (A : Option Addr) (n c : Nat) (ps : List (Int × Int)) (u v : Int) (H : Nat) (hH : W.heap.size = H) (hs : a.eval s = .slice A n c) (hx : a.eval x = .slice (some ⟨H, 0, none⟩) 1 1)
    (hO : OwnP 35 W base A n c ps) (hn : n ≤ 1048577) (hb : base ≤ W.heap.size)
    (h : ∀ A' c' w', OwnP 35 w' base A' (n + 1) c' (ps ++ [(u, v)]) → W.grownBy w' (Value.slice A n c).ownBlock → K (a.put o.dst (.slice A' (n + 1) c')) w') :
    if Region.wanted o (yielded ops a.tmps) = true then Oper.wp Try.prog o a ((W.alloc (.cells #[.int .i64 u, .int .i64 v] 35)).drew) K Q else E := by
  subst hH
  obtain ⟨i0, hi, hz0, hz1, hz2⟩ := info_parts infoVisA
  have hw : Region.wanted o (yielded ops a.tmps) = true := by simp [Region.wanted, hgd]
  rw [if_pos hw]
  have hb1 : Below W.heap.size W ((W.alloc (.cells #[.int .i64 u, .int .i64 v] 35)).drew) := below_drewN ((Below.refl _ _).alloc (Nat.le_refl _) _) 1
  have hS : Prs ((W.alloc (.cells #[.int .i64 u, .int .i64 v] 35)).drew) (some ⟨W.heap.size, 0, none⟩) 1 [(u, v)] := (OwnP.lit1 _ W u v).prs
  refine wp_append_own _ s x 28 ho base 35 i0 (.agg #[.int .i64 0, .int .i64 0]) 2 16 Try.underlying28 hi hz0 hz1 hz2 rfl (by decide) (.slice A n c) n _ hs (hO.below hb1) ⟨W.heap.size, 0, none⟩ 1 1 (flat [(u, v)]) hx (by rw [flat_len]; rfl)
    hS.cells flat_one_cell (by simp only [maxLen]; omega) (by omega) (Nat.le_trans hb hb1.size) ?_
  intro v' w' hown hg _
  obtain ⟨g, cap, hv, _, _⟩ := World.ownsRow.form hown (by omega)
  subst hv
  refine h _ _ _ (by unfold OwnP; rw [flat_append]; exact hown) ⟨hg.os, hg.tape, hg.output, Nat.le_trans hb1.size hg.size, fun k hk hne => (hg.block k (Nat.lt_of_lt_of_le hk hb1.size) hne).trans (hb1.block k hk)⟩

end Go.Proofs.Ytkmnjekpogbkkaa
