/-
  A slice of structs reads as before where only blocks beyond it have changed. No program in sight.
-/
import Derived.Test.YtmkdbbbnhbbhfaaNewP
namespace Go.Proofs.Ytmkdbbbnhbbhfaa
open Go.RowKit
set_option linter.unusedVariables false

theorem Prs.far {w w' : World} {b off n L : Nat} {ps : List (Int × Int)} {row : Option Nat} (h : Prs w (some ⟨b, off, none⟩) n ps) (hb : b < L) (hlt : b < w.heap.size) (hg : w.grownBy w' row) (hr : ∀ k, row = some k → L ≤ k) : Prs w' (some ⟨b, off, none⟩) n ps := by
  refine ⟨h.1, fun hn => ?_⟩
  obtain ⟨b', off', e, hc⟩ := h.2 hn
  injection e with e; injection e with e1 e2
  subst e1 e2
  have hblk := hg.block b hlt (fun e' => by have := hr b e'.symm; omega)
  exact ⟨b, off, rfl, fun j hj => ⟨(World.cell?_of_block (w := w) (a := ⟨b, off + j * 2, none⟩) hblk).trans (hc j hj).1, (World.cell?_of_block (w := w) (a := ⟨b, off + j * 2 + 1, none⟩) hblk).trans (hc j hj).2⟩⟩

end Go.Proofs.Ytmkdbbbnhbbhfaa
