/-
  append of an integer onto a row of one's own, at a step of a region that draws its order.
-/
import Derived.Test.YtjjogggallapjaaInts
import Derived.Deep.RegionLaw
namespace Go.Proofs.Ytjjogggallapjaa
open Go.RowKit
set_option linter.unusedVariables false

/-- append(out, z) onto a row of one's own, in a region that draws its order. -/
theorem step_appendI {ops : Array Oper} {o : Oper} {a : Act} {K : Act → World → Prop} {Q : Exit → Act → World → Prop} {E : Prop} (hgd : o.guard = none) (s x : Operand)
    (ho : o.op = .call { callee := .builtin .append, args := #[s, x], argTypes := #[45, 45] })
    (W : World) (base : Nat) (A : Option Addr) (n c : Nat) (zs : List Int) (z : Int) (hs : a.eval s = .slice A n c) (hx : a.eval x = .slice (some ⟨W.heap.size, 0, none⟩) 1 1)
    (hO : OwnI W base A n c zs) (hn : n ≤ 1048577) (hb : base ≤ W.heap.size)
    (h : ∀ A' c' w', OwnI w' base A' (n + 1) c' (zs ++ [z]) → W.grownBy w' (Value.slice A n c).ownBlock → K (a.put o.dst (.slice A' (n + 1) c')) w') :
    if Region.wanted o (yielded ops a.tmps) = true then Oper.wp Try.prog o a ((W.alloc (.cells #[.int .i64 z] 3)).drew) K Q else E := by
  obtain ⟨i0, hi, hz0, hz1, hz2⟩ := info_parts infoI
  have hw : Region.wanted o (yielded ops a.tmps) = true := by simp [Region.wanted, hgd]
  rw [if_pos hw]
  have hO' : World.ownsRow ((W.alloc (.cells #[.int .i64 z] 3)).drew) base 3 1 (.slice A n c) n (zs.map (Value.int .i64)) := World.ownsRow.alloc hO _
  refine wp_append_own _ s x 45 ho base 3 i0 (.int .i64 0) 1 8 Try.underlying45 hi hz0 hz1 hz2 rfl (by decide) (.slice A n c) n _ hs hO' ⟨W.heap.size, 0, none⟩ 1 1 [.int .i64 z] hx rfl
    (cell_one_new _ _ _) (by simp [Value.oneCell']) (by simp only [maxLen]; omega) (by omega) (by show base ≤ (W.alloc _).heap.size; simp; omega) ?_
  intro v' w' hown hg _
  obtain ⟨g, cap, hv, _, _⟩ := World.ownsRow.form hown (by omega)
  subst hv
  refine h _ _ _ (by unfold OwnI; rw [List.map_append]; exact hown) ⟨hg.os, hg.tape, hg.output, Nat.le_trans (by simp) hg.size, fun k hk hne => (hg.block k (by show k < (W.alloc _).heap.size; simp; omega) hne).trans (Below.heap_alloc W _ k hk)⟩

end Go.Proofs.Ytjjogggallapjaa
