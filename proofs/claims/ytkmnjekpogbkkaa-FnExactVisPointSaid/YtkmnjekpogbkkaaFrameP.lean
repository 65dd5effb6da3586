/-
  The frame of laws over slices of structs of two integers, and over such a struct by value.
-/
import Derived.Test.YtkmnjekpogbkkaaFrame
import Derived.Test.YtkmnjekpogbkkaaPairs
import Derived.Deep.SlicePairs
import Derived.Lib.SmallJoins
namespace Go.Proofs.Ytkmnjekpogbkkaa
open Go.ChangeShapes Go.WideShapes Go.ChangeAt Go.RowKit Go.Deep Go.Joins
set_option linter.unusedVariables false

/-- A slice of pairs that came in reads as a list. -/
theorem open_pairs {t e : TypeId} {f0 f1 : Field} {H : Type} {enc : TypeId × Value → H} {W : World} (ht : Try.prog.underlying t = some (.slice e)) (he : Try.prog.underlying e = some (.struct #[f0, f1]))
    (ce : Try.prog.cellsOf e = 2) (o0 : f0.offset = 0) (o1 : f1.offset = 1) (c0 : Try.prog.cellsOf f0.type = 1) (c1 : Try.prog.cellsOf f1.type = 1)
    (k0 : Try.prog.underlying f0.type = some (.int .i64)) (k1 : Try.prog.underlying f1.type = some (.int .i64))
    {a : Option Addr} {len cap : Nat} {d : DataW H} {p : List MemPlace} (h : DataW.Trod enc Try.prog W 0 (fun _ => true) true t (.slice a len cap) d p) :
    ∃ ps, Prs W a len ps ∧ (len ≤ maxLen ∧ len ≤ cap) ∧ ∀ j, (Lit.int .i64 (px ps j)).wf = true ∧ (Lit.int .i64 (py ps j)).wf = true := by
  obtain ⟨fuel, hf⟩ := h
  rcases open_slice_pairs ht he ce o0 o1 c0 c1 hf with ⟨hcs, _⟩ | ⟨x, l, c, m, n, V0, V1, D0, D1, P0, P1, hcs, _, hl, hm, hmm, _, hi⟩
  · simp [Value.cells] at hcs
    obtain ⟨rfl, rfl, rfl⟩ := hcs
    exact ⟨[], Prs.empty _ _, ⟨by simp [maxLen], Nat.le_refl _⟩, fun j => by simp [px, py, wf_zero]⟩
  · simp [Value.cells] at hcs
    obtain ⟨rfl, rfl, rfl⟩ := hcs
    have hm' : m = cap := by simpa using hmm
    subst hm'
    have hv : ∀ i, i < m → ∃ q : Int × Int, W.cell? (x.add (i * 2)) = some (.int .i64 q.1) ∧ W.cell? (x.add (i * 2 + 1)) = some (.int .i64 q.2) ∧ (Lit.int .i64 q.1).wf = true ∧ (Lit.int .i64 q.2).wf = true := by
      intro i hi'
      obtain ⟨h0, h1, t0, t1⟩ := hi i hi'
      obtain ⟨y0, e0, _, w0⟩ := DataW.trod_int k0 t0
      obtain ⟨y1, e1, _, w1⟩ := DataW.trod_int k1 t1
      simp at e0 e1
      exact ⟨(y0, y1), by rw [h0, e0], by rw [h1, e1], w0, w1⟩
    obtain ⟨q, hq⟩ := choose_lt hv
    have hat : ∀ j, j < len → px ((List.range len).map q) j = (q j).1 ∧ py ((List.range len).map q) j = (q j).2 := fun j hj => by
      rw [px_lt (by simpa using hj), py_lt (by simpa using hj)]; simp
    refine ⟨(List.range len).map q, ⟨by simp, fun hn => ?_⟩, ⟨by omega, hl⟩, fun j => ?_⟩
    · obtain ⟨b, off, spot⟩ := x
      have h0 := (hq 0 (by omega)).1
      have hspot : spot = none := by simpa [Addr.add] using World.cell?_spot h0
      subst hspot
      refine ⟨b, off, rfl, fun j hj => ?_⟩
      have h1 := hq j (by omega)
      rw [addr_add_none, addr_add_none] at h1
      rw [(hat j hj).1, (hat j hj).2]
      exact ⟨h1.1, by rw [Nat.add_assoc]; exact h1.2.1⟩
    · rcases Nat.lt_or_ge j len with hj | hj
      · rw [(hat j hj).1, (hat j hj).2]
        exact ⟨(hq j (by omega)).2.2.1, (hq j (by omega)).2.2.2⟩
      · have e : ((List.range len).map q).getD j (0, 0) = (0, 0) := by rw [List.getD_eq_getElem?_getD, List.getElem?_eq_none (by simpa using hj)]; rfl
        rw [px, py, e]
        exact ⟨wf_zero _, wf_zero _⟩

/-- A struct of two integers by value. -/
theorem open_pair {r : Reach} {b0 : Nat} {t : TypeId} {f0 f1 : Field} {H : Type} {enc : TypeId × Value → H} {W : World} {v : Value} {d : DataW H} {p : List MemPlace} (hs : Try.prog.underlying t = some (.struct #[f0, f1])) (hone : oneCellFields Try.prog #[f0, f1] = true) (hC : Try.prog.cellsOf t = 2)
    (k0 : Try.prog.underlying f0.type = some (.int .i64)) (k1 : Try.prog.underlying f1.type = some (.int .i64))
    (hv : Value.okWide Try.prog W r b0 t v) (h : DataW.Trod enc Try.prog W 0 (fun _ => true) true t v d p) :
    ∃ x y : Int, v = .agg #[.int .i64 x, .int .i64 y] ∧ p = [] ∧ (Lit.int .i64 x).wf = true ∧ (Lit.int .i64 y).wf = true ∧ ∀ (W' : World) (sp : Nat → Bool), DataW.Trod enc Try.prog W' 0 sp true t v d [] := by
  obtain ⟨v0, v1, y0, y1, n, rfl, rfl, rfl, h0, h1⟩ := open_agg2 hs hone hC hv h
  obtain ⟨x, e0, rfl, w0⟩ := DataW.trod_int k0 h0
  obtain ⟨y, e1, rfl, w1⟩ := DataW.trod_int k1 h1
  simp at e0 e1
  subst e0 e1
  refine ⟨x, y, rfl, rfl, w0, w1, fun W' sp => ?_⟩
  exact shut_agg2 (y0 := (.lit (.int .i64 x), [])) (y1 := (.lit (.int .i64 y), [])) hs hone hC ⟨1, by simp [DataW.trod, k0, w0]⟩ ⟨1, by simp [DataW.trod, k1, w1]⟩

end Go.Proofs.Ytkmnjekpogbkkaa
