/-
  Contract: laws.sameVis says whether two slices of structs are equal; the model's == and != at such structs.
-/
import Derived.Test.YtkmnjekpogbkkaaProg
import Derived.Test.YtkmnjekpogbkkaaPairsB
import Derived.Deep.QuietTactic
import Derived.BigQuiet
import Derived.Laws.StructEq
namespace Go.Proofs.Ytkmnjekpogbkkaa
open Go.RowKit
set_option linter.unusedVariables false

/-- Whether two pairs are one. -/
def eqQVis (x y x' y' : Int) : Bool := decide (x = x' ∧ y = y')
theorem eqQVis_t {x y x' y' : Int} (h : eqQVis x y x' y' = true) : x = x' ∧ y = y' := of_decide_eq_true h
theorem eqQVis_f {x y x' y' : Int} (h : eqQVis x y x' y' = false) : ¬ (x = x' ∧ y = y') := of_decide_eq_false h
theorem eqlVis (x y x' y' : Int) (w : World) : (binOp .eql 35 (.agg #[.int .i64 x, .int .i64 y]) (.agg #[.int .i64 x', .int .i64 y'])).run Try.prog w = .ok (.bool (eqQVis x y x' y')) w := by
  have u3 := Try.underlying3
  have a3 := Try.isAgg3
  have z3 := Try.sizeOf3
  have hS : Try.prog.underlying 35 = some (.struct (Try.prog.fieldsOf 35)) := by kernel_rfl
  have hp : Try.prog.stoodInHeld 35 = false := by kernel_rfl
  rw [run_eql_struct, show (10000 : Nat) = 9999 + 1 from rfl, run_equalIn_agg w 9999 35 _ _ hS hp]
  simp only [Program.fieldsOf, Try.underlying35]
  go_simp
  by_cases h1 : x = x' <;> by_cases h2 : y = y' <;> simp [eqQVis, h1, h2]
theorem neqVis (x y x' y' : Int) (w : World) : (binOp .neq 35 (.agg #[.int .i64 x, .int .i64 y]) (.agg #[.int .i64 x', .int .i64 y'])).run Try.prog w = .ok (.bool (!eqQVis x y x' y')) w := by
  have u3 := Try.underlying3
  have a3 := Try.isAgg3
  have z3 := Try.sizeOf3
  have hS : Try.prog.underlying 35 = some (.struct (Try.prog.fieldsOf 35)) := by kernel_rfl
  have hp : Try.prog.stoodInHeld 35 = false := by kernel_rfl
  rw [run_neq_struct, show (10000 : Nat) = 9999 + 1 from rfl, run_equalIn_agg w 9999 35 _ _ hS hp]
  simp only [Program.fieldsOf, Try.underlying35]
  go_simp
  by_cases h1 : x = x' <;> by_cases h2 : y = y' <;> simp [eqQVis, h1, h2]
theorem grdVis (op : BinOp) (t s : Operand) (xs ys : Array Value) (w : World) : (eqGuard op 35 t s (.agg xs) (.agg ys)).run Try.prog w = .ok () w :=
  run_eqGuard_agg w op _ t s xs ys (by kernel_rfl)

set_option maxHeartbeats 2000000 in
theorem sameVis_any (A B : Option Addr) (n m c d : Nat) (ps qs : List (Int × Int)) (w : World) (hz : Prs w A n ps) (hy : Prs w B m qs) (hn : n ≤ 1048577) :
    Calls Try.prog 13 #[.slice A n c, .slice B m d] w fun e w' => e = .returned (.bool (eqP ps qs)) ∧ Below w.heap.size w w' := by
  have hnq := neqVis
  have hgd := grdVis
  by_cases hnm : n = m
  · subst hnm
    have HL := Lib.hid (hz.len.trans hy.len.symm)
    have HL' := Lib.hid hz.len
    go_enter Try.func13, Try.ntmps13
    go_wp2
    go_loopw [5] (fun i wr => ∃ k : Nat, k ≤ n ∧ i = .int .i64 k ∧ (∀ j, j < k → px ps j = px qs j ∧ py ps j = py qs j) ∧ ∃ q, wr = w.drewN q) (fun i _ => n - (intOf i).toNat)
    case atStart => exact ⟨0, Nat.zero_le _, rfl, fun j hj => absurd hj (by omega), 0, rfl⟩
    case round =>
      obtain ⟨k, hk, rfl, ha, q, rfl⟩ := hrel
      have HA := Lib.hid ha
      clear ha
      by_cases hlt : k < n
      · obtain ⟨b, off, rfl, hb, hc⟩ := hz.at_ (by omega)
        obtain ⟨b', off', rfl, hb', hc'⟩ := hy.at_ (by omega)
        obtain ⟨hc1, hc2⟩ := hc k hlt
        obtain ⟨hc3, hc4⟩ := hc' k hlt
        clear hc hc'
        cases he : eqQVis (px ps k) (py ps k) (px qs k) (py qs k)
        · have HE : Hid (eqP ps qs = false) := by
            simp only [eqQVis, decide_eq_false_iff_not] at he
            by_cases h1 : px ps k = px qs k
            · exact eqP_y (fun h2 => he ⟨h1, h2⟩)
            · exact eqP_x h1
          go_wp2
          go_quiet (fail)
          go_wp2
          go_ret
          exact ⟨ret_bool HE.out.symm, below_drewN (below_drewN (Below.refl _ _) _) _⟩
        · have HE : Hid (px ps k = px qs k ∧ py ps k = py qs k) := eqQVis_t he
          go_wp2
          go_quiet (fail)
          go_wp2
          go_roundw
          case rel =>
            refine ⟨k + 1, by omega, by go_num, fun j hj => ?_, _, rfl⟩
            rcases Nat.lt_or_ge j k with h | h
            · exact HA.out j h
            · obtain rfl : j = k := by omega
              exact HE.out
          case measure => simp [intOf]; omega
      · have H : Hid (eqP ps qs = true) := eqP_all HL.out fun j hj => HA.out j (by rw [HL'.out] at hj; omega)
        go_wp2
        go_ret
        exact ⟨ret_bool H.out.symm, below_drewN (Below.refl _ _) _⟩
  · have H := Lib.hid (eqP_len (ps := ps) (qs := qs) (by rw [hz.len, hy.len]; exact hnm))
    have h1 : ((n : Int) != (m : Int)) = true := by simp; omega
    have h2 : (n != m) = true := by simp; omega
    go_enter Try.func13, Try.ntmps13
    go_wp2
    go_ret
    exact ⟨ret_bool H.out.symm, Below.refl _ _⟩

end Go.Proofs.Ytkmnjekpogbkkaa
