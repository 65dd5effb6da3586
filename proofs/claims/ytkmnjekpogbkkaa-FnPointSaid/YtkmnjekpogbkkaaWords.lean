/-
  Words for memory used by all proofs of this seat: a slice that reads as a list of integers; small facts on worlds. No program in sight.
-/
import Derived.WalkKit
import Derived.WalkSpells
import Derived.WalkLawsBesides
import Derived.Below
import Derived.Laws.OwnMore
import Derived.Deep.Draws
import Derived.Deep.AppendLies
import Derived.Lib.Hide
namespace Go.Proofs.Ytkmnjekpogbkkaa
open Go.RowKit
set_option linter.unusedVariables false

/-- The j-th number of a list (0 past its end). -/
def el (zs : List Int) (j : Nat) : Int := zs.getD j 0

theorem el_lt {zs : List Int} {j : Nat} (h : j < zs.length) : el zs j = zs[j] := by simp [el, h]

/-- The slice value '.slice A n c' reads, in w, as the integers zs (of kind kd). -/
def IntsK (kd : IntKind) (w : World) (A : Option Addr) (n : Nat) (zs : List Int) : Prop :=
  zs.length = n ∧ (0 < n → ∃ b off, A = some ⟨b, off, none⟩ ∧ ∀ j, j < n → w.cell? ⟨b, off + j, none⟩ = some (.int kd (el zs j)))

abbrev Ints := IntsK .i64

theorem cell_lt {w : World} {b o : Nat} {v : Value} (h : w.cell? ⟨b, o, none⟩ = some v) : b < w.heap.size := by
  rcases Nat.lt_or_ge b w.heap.size with hlt | hge
  · exact hlt
  · have : w.heap[b]? = none := Array.getElem?_eq_none hge
    simp [World.cell?, this] at h

section
variable {kd : IntKind} {w w' : World} {A : Option Addr} {n : Nat} {zs : List Int}
theorem IntsK.len (h : IntsK kd w A n zs) : zs.length = n := h.1
theorem IntsK.at_ (h : IntsK kd w A n zs) (hn : 0 < n) : ∃ b off, A = some ⟨b, off, none⟩ ∧ b < w.heap.size ∧ ∀ j, j < n → w.cell? ⟨b, off + j, none⟩ = some (.int kd (el zs j)) := by
  obtain ⟨b, off, e, hc⟩ := h.2 hn
  exact ⟨b, off, e, cell_lt (hc 0 hn), hc⟩
theorem IntsK.empty (kd : IntKind) (w : World) (A : Option Addr) : IntsK kd w A 0 [] := ⟨rfl, fun h => absurd h (by omega)⟩
theorem IntsK.keep (h : IntsK kd w A n zs) (hk : ∀ p : Addr, p.block < w.heap.size → w'.cell? p = w.cell? p) : IntsK kd w' A n zs :=
  ⟨h.1, fun hn => by
    obtain ⟨b, off, e, hb, hc⟩ := h.at_ hn
    exact ⟨b, off, e, fun j hj => (hk ⟨b, off + j, none⟩ hb).trans (hc j hj)⟩⟩
theorem IntsK.below (h : IntsK kd w A n zs) (hb : Below w.heap.size w w') : IntsK kd w' A n zs := h.keep fun _ hp => hb.cell hp
theorem IntsK.drewN (h : IntsK kd w A n zs) (k : Nat) : IntsK kd (w.drewN k) A n zs := h
theorem IntsK.drew (h : IntsK kd w A n zs) : IntsK kd w.drew A n zs := h
end

/-- An owned row of one-cell elements, read as integers. -/
theorem ints_of_own {kd : IntKind} {w : World} {base : Nat} {e : TypeId} {A : Option Addr} {n c : Nat} {zs : List Int}
    (h : w.ownsRow base e 1 (.slice A n c) n (zs.map (Value.int kd))) : IntsK kd w A n zs := by
  have hl : zs.length = n := by simpa using h.1
  refine ⟨hl, fun hn => ?_⟩
  obtain ⟨g, cap, hv, _, hlt⟩ := h.form hn
  have hA : A = some ⟨g, 0, none⟩ := by injection hv
  subst hA
  refine ⟨g, 0, rfl, fun j hj => ?_⟩
  have := h.cells (g := g) rfl j (.int kd (el zs j)) (by
    rw [List.getElem?_map, List.getElem?_eq_getElem (by omega)]
    simp [el, show j < zs.length by omega])
  rwa [show ((⟨g, 0, none⟩ : Addr).add j) = ⟨g, 0 + j, none⟩ by unfold Addr.add; split <;> simp_all] at this

theorem ret_int {k : IntKind} {a b : Int} (h : a = b) : Ending.returned (.int k a) = .returned (.int k b) := by rw [h]
theorem ret_bool {a b : Bool} (h : a = b) : Ending.returned (.bool a) = .returned (.bool b) := by rw [h]

theorem below_step {a b c : World} (h : Below a.heap.size a b) (k : Below b.heap.size b c) : Below a.heap.size a c := h.trans (k.mono h.size)
theorem below_drewN {B : Nat} {a w : World} (h : Below B a w) (n : Nat) : Below B a (w.drewN n) := ⟨h.os, h.tape, h.output, h.size, h.block⟩

theorem wf_u8 {x : Int} (h : (Lit.int .u8 x).wf = true) : 0 ≤ x ∧ x ≤ 255 := by
  simpa [Lit.wf, IntKind.min, IntKind.max, IntKind.signed, IntKind.bits] using h
theorem wf_i64 {x : Int} (h : (Lit.int .i64 x).wf = true) : -9223372036854775808 ≤ x ∧ x ≤ 9223372036854775807 := by
  simpa [Lit.wf, IntKind.min, IntKind.max, IntKind.signed, IntKind.bits] using h
theorem bytes_in {bs : List Int} (h : ∀ j, (Lit.int .u8 (el bs j)).wf = true) : ∀ j, 0 ≤ el bs j ∧ el bs j ≤ 255 := fun j => wf_u8 (h j)

end Go.Proofs.Ytkmnjekpogbkkaa
