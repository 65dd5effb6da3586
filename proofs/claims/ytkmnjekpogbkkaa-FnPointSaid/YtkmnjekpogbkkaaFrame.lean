/-
  The frame that all laws of this seat share: how arguments are opened to what the walks are told of them.
-/
import Derived.Test.YtkmnjekpogbkkaaRows
import Derived.Test.YtkmnjekpogbkkaaWords
import Derived.ProofKit
import Derived.OpenShut
import Derived.ChangeOld
namespace Go.Proofs.Ytkmnjekpogbkkaa
open Go.ChangeShapes Go.WideShapes Go.ChangeAt Go.RowKit
set_option linter.unusedVariables false

theorem ownK : ownKnob Try.prog.godebug = none := by kernel_rfl
theorem laidOut : laidOutB Try.prog = true := by kernel_rfl

theorem mayE : Try.pinned.checked.prog.mayEnter = true := by kernel_rfl
theorem liftsF : Try.pinned.checked.prog.liftsFinal = false := by kernel_rfl
theorem makeC : Try.pinned.checked.prog.make = some .cut := by kernel_rfl

theorem addr_add_none (b off i : Nat) : (⟨b, off, none⟩ : Addr).add i = ⟨b, off + i, none⟩ := by
  unfold Addr.add; split <;> simp_all

theorem el_take {zs : List Int} {n j : Nat} (h : j < n) : el (zs.take n) j = el zs j := by
  simp [el, h]

theorem wf_zero (kd : IntKind) : (Lit.int kd 0).wf = true := by cases kd <;> decide

/-- A slice of integers that came in reads as a list. -/
theorem open_row {kd : IntKind} {t e : TypeId} {H : Type} {enc : TypeId × Value → H} {W : World} (ht : Try.prog.underlying t = some (.slice e)) (he : Try.prog.underlying e = some (.int kd)) (hc : Try.prog.cellsOf e = 1)
    {a : Option Addr} {len cap : Nat} {d : DataW H} {p : List MemPlace} (h : DataW.Trod enc Try.prog W 0 (fun _ => true) true t (.slice a len cap) d p) :
    ∃ zs, IntsK kd W a len zs ∧ (len ≤ maxLen ∧ len ≤ cap) ∧ ∀ j, (Lit.int kd (el zs j)).wf = true := by
  obtain ⟨fuel, hf⟩ := h
  rcases open_ints ht he hc hf with ⟨hcs, _⟩ | ⟨x, l, c, zs, hcs, _, hl, hm, hz, _, hcell, hwz⟩
  · simp [Value.cells] at hcs
    obtain ⟨rfl, rfl, rfl⟩ := hcs
    exact ⟨[], IntsK.empty _ _ _, ⟨by simp [maxLen], Nat.le_refl _⟩, fun j => by simp [el, wf_zero]⟩
  · simp [Value.cells] at hcs
    obtain ⟨rfl, rfl, rfl⟩ := hcs
    have hz' : zs.length = cap := by simpa using hz
    refine ⟨zs.take len, ⟨by rw [List.length_take]; omega, fun hn => ?_⟩, ⟨by omega, hl⟩, fun j => ?_⟩
    · obtain ⟨b, off, spot⟩ := x
      have h0 := hcell 0 (by omega)
      have hspot : spot = none := by simpa [Addr.add] using World.cell?_spot h0
      subst hspot
      refine ⟨b, off, rfl, fun j hj => ?_⟩
      have := hcell j (by omega)
      rw [addr_add_none] at this
      rw [this, el_take hj]
      rfl
    · rcases Nat.lt_or_ge j (zs.take len).length with hj | hj
      · rw [el_lt hj]
        exact hwz _ (List.mem_of_mem_take (List.getElem_mem hj))
      · have : el (zs.take len) j = 0 := by rw [el, List.getD_eq_getElem?_getD, List.getElem?_eq_none hj]; rfl
        rw [this]; exact wf_zero _

end Go.Proofs.Ytkmnjekpogbkkaa
