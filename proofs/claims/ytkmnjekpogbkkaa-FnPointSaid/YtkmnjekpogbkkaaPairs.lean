/-
  Words for slices of structs of two integers: a slice that reads as a list of pairs; such a slice in memory of one's own. No program in sight.
-/
import Derived.Test.YtkmnjekpogbkkaaWords
namespace Go.Proofs.Ytkmnjekpogbkkaa
open Go.RowKit
set_option linter.unusedVariables false

/-- The first and the second number of the j-th pair (0 past the end). -/
def px (ps : List (Int × Int)) (j : Nat) : Int := (ps.getD j (0, 0)).1
def py (ps : List (Int × Int)) (j : Nat) : Int := (ps.getD j (0, 0)).2
theorem px_lt {ps : List (Int × Int)} {j : Nat} (h : j < ps.length) : px ps j = ps[j].1 := by simp [px, h]
theorem py_lt {ps : List (Int × Int)} {j : Nat} (h : j < ps.length) : py ps j = ps[j].2 := by simp [py, h]
theorem pair_ext {ps qs : List (Int × Int)} (hl : ps.length = qs.length) (h : ∀ j, j < ps.length → px ps j = px qs j ∧ py ps j = py qs j) : ps = qs := by
  apply List.ext_getElem hl
  intro j h1 h2
  have := h j h1
  rw [px_lt h1, px_lt h2, py_lt h1, py_lt h2] at this
  exact Prod.ext this.1 this.2
theorem pair_snoc {ps : List (Int × Int)} {k : Nat} (h : k < ps.length) : ps.take (k + 1) = ps.take k ++ [(px ps k, py ps k)] := by
  rw [List.take_succ_eq_append_getElem h, px_lt h, py_lt h]

/-- The cells of a list of pairs. -/
def flat (ps : List (Int × Int)) : List Value := ps.flatMap fun p => [.int .i64 p.1, .int .i64 p.2]
theorem flat_nil : flat [] = [] := rfl
theorem flat_cons (p : Int × Int) (ps : List (Int × Int)) : flat (p :: ps) = .int .i64 p.1 :: .int .i64 p.2 :: flat ps := by simp [flat]
theorem flat_append (ps qs : List (Int × Int)) : flat (ps ++ qs) = flat ps ++ flat qs := by simp [flat]
theorem flat_one (x y : Int) : flat [(x, y)] = [.int .i64 x, .int .i64 y] := by simp [flat]
theorem flat_len : ∀ ps : List (Int × Int), (flat ps).length = ps.length * 2
  | [] => rfl
  | p :: ps => by simp only [flat_cons, List.length_cons, flat_len ps]; omega
theorem flat_at : ∀ {ps : List (Int × Int)} {j : Nat}, j < ps.length → (flat ps)[j * 2]? = some (.int .i64 (px ps j)) ∧ (flat ps)[j * 2 + 1]? = some (.int .i64 (py ps j))
  | p :: ps, 0, _ => by simp [flat_cons, px, py]
  | p :: ps, j + 1, h => by
    have ih := flat_at (ps := ps) (j := j) (by simpa using h)
    rw [flat_cons, show (j + 1) * 2 = j * 2 + 1 + 1 by omega]
    simpa [px, py] using ih
theorem flat_one_cell {ps : List (Int × Int)} : ∀ u ∈ flat ps, u.oneCell' = true := by
  intro u hu
  simp only [flat, List.mem_flatMap] at hu
  obtain ⟨p, _, hp⟩ := hu
  simp at hp
  rcases hp with rfl | rfl <;> rfl
theorem flat_set : ∀ {ps : List (Int × Int)} {j : Nat} {x y : Int}, j < ps.length → ((flat ps).set (j * 2) (.int .i64 x)).set (j * 2 + 1) (.int .i64 y) = flat (ps.set j (x, y))
  | p :: ps, 0, x, y, _ => by simp [flat_cons]
  | p :: ps, j + 1, x, y, h => by
    have ih := flat_set (ps := ps) (j := j) (x := x) (y := y) (by simpa using h)
    rw [flat_cons, show (j + 1) * 2 = j * 2 + 1 + 1 by omega]
    simp only [List.set_cons_succ]
    rw [ih, flat_cons]

/-- The slice value '.slice A n c' reads, in w, as the pairs ps. -/
def Prs (w : World) (A : Option Addr) (n : Nat) (ps : List (Int × Int)) : Prop :=
  ps.length = n ∧ (0 < n → ∃ b off, A = some ⟨b, off, none⟩ ∧ ∀ j, j < n → w.cell? ⟨b, off + j * 2, none⟩ = some (.int .i64 (px ps j)) ∧ w.cell? ⟨b, off + j * 2 + 1, none⟩ = some (.int .i64 (py ps j)))

section
variable {w w' : World} {A : Option Addr} {n : Nat} {ps : List (Int × Int)}
theorem Prs.len (h : Prs w A n ps) : ps.length = n := h.1
theorem Prs.at_ (h : Prs w A n ps) (hn : 0 < n) : ∃ b off, A = some ⟨b, off, none⟩ ∧ b < w.heap.size ∧ ∀ j, j < n → w.cell? ⟨b, off + j * 2, none⟩ = some (.int .i64 (px ps j)) ∧ w.cell? ⟨b, off + j * 2 + 1, none⟩ = some (.int .i64 (py ps j)) := by
  obtain ⟨b, off, e, hc⟩ := h.2 hn
  exact ⟨b, off, e, cell_lt (hc 0 hn).1, hc⟩
theorem Prs.empty (w : World) (A : Option Addr) : Prs w A 0 [] := ⟨rfl, fun h => absurd h (by omega)⟩
theorem Prs.keep (h : Prs w A n ps) (hk : ∀ p : Addr, p.block < w.heap.size → w'.cell? p = w.cell? p) : Prs w' A n ps :=
  ⟨h.1, fun hn => by
    obtain ⟨b, off, e, hb, hc⟩ := h.at_ hn
    exact ⟨b, off, e, fun j hj => ⟨(hk ⟨b, off + j * 2, none⟩ hb).trans (hc j hj).1, (hk ⟨b, off + j * 2 + 1, none⟩ hb).trans (hc j hj).2⟩⟩⟩
theorem Prs.below (h : Prs w A n ps) (hb : Below w.heap.size w w') : Prs w' A n ps := h.keep fun _ hp => hb.cell hp
theorem Prs.drewN (h : Prs w A n ps) (k : Nat) : Prs (w.drewN k) A n ps := h
theorem Prs.cut {k : Nat} (h : Prs w A n ps) (hk : k ≤ n) : Prs w A k (ps.take k) := by
  refine ⟨by rw [List.length_take, h.len]; omega, fun hpos => ?_⟩
  obtain ⟨b, off, e, hc⟩ := h.2 (by omega)
  refine ⟨b, off, e, fun j hj => ?_⟩
  have h1 : px (ps.take k) j = px ps j := by simp [px, hj]
  have h2 : py (ps.take k) j = py ps j := by simp [py, hj]
  rw [h1, h2]
  exact hc j (by omega)
end

/-- A slice of pairs (elements of type T) in memory of one's own, from block 'base' on. -/
def OwnP (T : TypeId) (w : World) (base : Nat) (A : Option Addr) (n c : Nat) (ps : List (Int × Int)) : Prop := w.ownsRow base T 2 (.slice A n c) n (flat ps)
section
variable {T : TypeId} {w w' : World} {base base' : Nat} {A : Option Addr} {n c : Nat} {ps : List (Int × Int)} {row : Option Nat}
theorem OwnP.len (h : OwnP T w base A n c ps) : ps.length = n := by have := h.1; rw [flat_len] at this; omega
theorem OwnP.prs (h : OwnP T w base A n c ps) : Prs w A n ps := by
  refine ⟨h.len, fun hn => ?_⟩
  have hl := h.len
  obtain ⟨g, cap, hv, _, hlt⟩ := World.ownsRow.form h hn
  have hA : A = some ⟨g, 0, none⟩ := by injection hv
  subst hA
  refine ⟨g, 0, rfl, fun j hj => ?_⟩
  have h1 := flat_at (ps := ps) (j := j) (by omega)
  have c1 := World.ownsRow.cellAt h (j * 2) (by omega)
  have c2 := World.ownsRow.cellAt h (j * 2 + 1) (by omega)
  rw [Nat.zero_add]
  exact ⟨c1.trans h1.1, c2.trans h1.2⟩
theorem OwnP.below (h : OwnP T w base A n c ps) (hb : Below w.heap.size w w') : OwnP T w' base A n c ps := by
  refine ⟨h.1, ?_⟩
  rcases h.2 with h2 | ⟨g, cap, cur, hv, hg, hh, r⟩
  · exact .inl h2
  · refine .inr ⟨g, cap, cur, hv, hg, ?_, r⟩
    have hlt : g < w.heap.size := by
      rcases Nat.lt_or_ge g w.heap.size with hlt | hge
      · exact hlt
      · rw [Array.getElem?_eq_none hge] at hh; cases hh
    rw [hb.block g hlt]; exact hh
theorem OwnP.mono (h : OwnP T w base A n c ps) (hb : base' ≤ base) : OwnP T w base' A n c ps := by
  refine ⟨h.1, ?_⟩
  rcases h.2 with h2 | ⟨g, cap, cur, hv, hg, r⟩
  · exact .inl h2
  · exact .inr ⟨g, cap, cur, hv, by omega, r⟩
theorem OwnP.far (h : OwnP T w base A n c ps) (hg : w.grownBy w' row) (hr : ∀ k, (Value.slice A n c).ownBlock = some k → row = some k → False) : OwnP T w' base A n c ps :=
  World.ownsRow.kept h hg (by
    cases e : (Value.slice A n c).ownBlock with
    | none => exact .inl rfl
    | some k => exact .inr (fun e' => hr k e e'.symm))
theorem OwnP.lt (h : OwnP T w base A n c ps) : ∀ k, (Value.slice A n c).ownBlock = some k → base ≤ k ∧ k < w.heap.size := World.ownsRow.lt h
theorem OwnP.off (h : OwnP T w base A n c ps) (hg : w.grownBy w' row) (hr : ∀ k, row = some k → k < base) : OwnP T w' base A n c ps :=
  h.far hg (fun k e e' => by have h1 := (h.lt k e).1; have h2 := hr k e'; omega)
theorem OwnP.nil (T : TypeId) (w : World) (base : Nat) : OwnP T w base none 0 0 [] := World.ownsRow_nil w base _ _
theorem OwnP.lit0 (T : TypeId) (w : World) {base : Nat} (hb : base ≤ w.heap.size) : OwnP T (w.alloc (.cells #[] T)) base (some ⟨w.heap.size, 0, none⟩) 0 0 [] := World.ownsRow_lit w #[] 0 hb (by simp [maxLen]) rfl
end

theorem OwnP.cells2 {T : TypeId} {w : World} {base g n c k : Nat} {ps : List (Int × Int)} (h : OwnP T w base (some ⟨g, 0, none⟩) n c ps) (hk : k < n) : ∃ o1 o2, w.cell? ⟨g, k * 2, none⟩ = some o1 ∧ w.cell? ⟨g, k * 2 + 1, none⟩ = some o2 := by
  have hl := h.len
  have h1 := flat_at (ps := ps) (j := k) (by omega)
  exact ⟨_, _, (World.ownsRow.cellAt h (k * 2) (by omega)).trans h1.1, (World.ownsRow.cellAt h (k * 2 + 1) (by omega)).trans h1.2⟩
theorem OwnP.stored2 {T : TypeId} {w : World} {base g n c k : Nat} {ps : List (Int × Int)} {x y : Int} (h : OwnP T w base (some ⟨g, 0, none⟩) n c ps) (hk : k < n) :
    OwnP T ((w.setCell ⟨g, k * 2, none⟩ (.int .i64 x)).setCell ⟨g, k * 2 + 1, none⟩ (.int .i64 y)) base (some ⟨g, 0, none⟩) n c (ps.set k (x, y)) := by
  have hl := h.len
  have h1 := (World.ownsRow.stored h (k * 2) (.int .i64 x)).1
  have h2 := (World.ownsRow.stored h1 (k * 2 + 1) (.int .i64 y)).1
  rw [flat_set (by omega)] at h2
  exact h2

/-- The cells of n pairs of zeros. -/
def zerosP (n : Nat) : Array Value := (flat (List.replicate n (0, 0))).toArray
theorem zerosP_size (n : Nat) : (zerosP n).size = n * 2 := by simp [zerosP, flat_len]
theorem flat_zeros_at : ∀ (n i : Nat) (h : i < (flat (List.replicate n (0, 0))).length), (flat (List.replicate n (0, 0)))[i] = .int .i64 0
  | 0, i, h => by simp [flat] at h
  | n + 1, 0, _ => by simp [List.replicate_succ, flat_cons]
  | n + 1, 1, _ => by simp [List.replicate_succ, flat_cons]
  | n + 1, i + 2, h => by
    simp only [List.replicate_succ, flat_cons, List.getElem_cons_succ]
    exact flat_zeros_at n i (by simpa [List.replicate_succ, flat_cons] using h)
theorem zerosP_at (n i : Nat) (h : i < (zerosP n).size) : (zerosP n)[i] = .int .i64 0 := by
  simp only [zerosP, List.getElem_toArray]
  exact flat_zeros_at n i _
/-- The first k pairs of ps, then zeros. -/
def upToP (ps : List (Int × Int)) (n k : Nat) : List (Int × Int) := ps.take k ++ List.replicate (n - k) (0, 0)
theorem upToP_zero (ps : List (Int × Int)) (n : Nat) : (zerosP n).toList = flat (upToP ps n 0) := by simp [upToP, zerosP]
theorem upToP_all {ps : List (Int × Int)} {n : Nat} (h : ps.length = n) : upToP ps n n = ps := by simp [upToP, ← h]
theorem upToP_set {ps : List (Int × Int)} {n k : Nat} (h : ps.length = n) (hk : k < n) : (upToP ps n k).set k (px ps k, py ps k) = upToP ps n (k + 1) := by
  have hl : (ps.take k).length = k := by rw [List.length_take]; omega
  rw [upToP, upToP, List.set_append_right _ _ (by omega), hl, Nat.sub_self, show n - k = (n - (k + 1)) + 1 by omega, List.replicate_succ, List.set_cons_zero,
    pair_snoc (by omega), List.append_assoc, List.singleton_append]

/-- A call returns one slice of pairs in new memory; what was there is as it was. -/
def RetP (T : TypeId) (w : World) (ps : List (Int × Int)) (e : Ending) (w' : World) : Prop :=
  ∃ A n c, e = .returned (.slice A n c) ∧ OwnP T w' w.heap.size A n c ps ∧ Below w.heap.size w w'
/-- A call returns a slice of pairs in new memory and a bool. -/
def RetPB (T : TypeId) (w : World) (ps : List (Int × Int)) (ok : Bool) (e : Ending) (w' : World) : Prop :=
  ∃ A n c, e = .returned (.tuple #[.slice A n c, .bool ok]) ∧ OwnP T w' w.heap.size A n c ps ∧ Below w.heap.size w w'

/-- Whether two lists of pairs are one. -/
def eqP (ps qs : List (Int × Int)) : Bool := decide (ps = qs)
theorem eqP_self (ps : List (Int × Int)) : eqP ps ps = true := by simp [eqP]
theorem eqP_len {ps qs : List (Int × Int)} (h : ps.length ≠ qs.length) : eqP ps qs = false := by
  simp only [eqP, decide_eq_false_iff_not]; intro e; exact h (by rw [e])
theorem eqP_x {ps qs : List (Int × Int)} {k : Nat} (h : px ps k ≠ px qs k) : eqP ps qs = false := by
  simp only [eqP, decide_eq_false_iff_not]; intro e; exact h (by rw [e])
theorem eqP_y {ps qs : List (Int × Int)} {k : Nat} (h : py ps k ≠ py qs k) : eqP ps qs = false := by
  simp only [eqP, decide_eq_false_iff_not]; intro e; exact h (by rw [e])
theorem eqP_all {ps qs : List (Int × Int)} (hl : ps.length = qs.length) (h : ∀ j, j < ps.length → px ps j = px qs j ∧ py ps j = py qs j) : eqP ps qs = true := by
  simp only [eqP, decide_eq_true_eq]; exact pair_ext hl h

end Go.Proofs.Ytkmnjekpogbkkaa
