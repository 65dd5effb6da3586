/-
  Contract: laws.sameAnts says whether two slices of structs are equal; the model's == and != at such structs.
-/
import Derived.Test.YtkmnjekpogbkkaaProg
import Derived.Test.YtkmnjekpogbkkaaPairsB
import Derived.Deep.QuietTactic
import Derived.BigQuiet
import Derived.Laws.StructEq
namespace Go.Proofs.Ytkmnjekpogbkkaa
open Go.RowKit
set_option linter.unusedVariables false

/-- Whether two pairs are one. -/
def eqQAnt (x y x' y' : Int) : Bool := decide (x = x' ∧ y = y')
theorem eqQAnt_t {x y x' y' : Int} (h : eqQAnt x y x' y' = true) : x = x' ∧ y = y' := of_decide_eq_true h
theorem eqQAnt_f {x y x' y' : Int} (h : eqQAnt x y x' y' = false) : ¬ (x = x' ∧ y = y') := of_decide_eq_false h
theorem eqlAnt (x y x' y' : Int) (w : World) : (binOp .eql 25 (.agg #[.int .i64 x, .int .i64 y]) (.agg #[.int .i64 x', .int .i64 y'])).run Try.prog w = .ok (.bool (eqQAnt x y x' y')) w := by
  have u3 := Try.underlying3
  have a3 := Try.isAgg3
  have z3 := Try.sizeOf3
  have hS : Try.prog.underlying 25 = some (.struct (Try.prog.fieldsOf 25)) := by kernel_rfl
  have hp : Try.prog.stoodInHeld 25 = false := by kernel_rfl
  rw [run_eql_struct, show (10000 : Nat) = 9999 + 1 from rfl, run_equalIn_agg w 9999 25 _ _ hS hp]
  simp only [Program.fieldsOf, Try.underlying25]
  go_simp
  by_cases h1 : x = x' <;> by_cases h2 : y = y' <;> simp [eqQAnt, h1, h2]
theorem neqAnt (x y x' y' : Int) (w : World) : (binOp .neq 25 (.agg #[.int .i64 x, .int .i64 y]) (.agg #[.int .i64 x', .int .i64 y'])).run Try.prog w = .ok (.bool (!eqQAnt x y x' y')) w := by
  have u3 := Try.underlying3
  have a3 := Try.isAgg3
  have z3 := Try.sizeOf3
  have hS : Try.prog.underlying 25 = some (.struct (Try.prog.fieldsOf 25)) := by kernel_rfl
  have hp : Try.prog.stoodInHeld 25 = false := by kernel_rfl
  rw [run_neq_struct, show (10000 : Nat) = 9999 + 1 from rfl, run_equalIn_agg w 9999 25 _ _ hS hp]
  simp only [Program.fieldsOf, Try.underlying25]
  go_simp
  by_cases h1 : x = x' <;> by_cases h2 : y = y' <;> simp [eqQAnt, h1, h2]
theorem grdAnt (op : BinOp) (t s : Operand) (xs ys : Array Value) (w : World) : (eqGuard op 25 t s (.agg xs) (.agg ys)).run Try.prog w = .ok () w :=
  run_eqGuard_agg w op _ t s xs ys (by kernel_rfl)


end Go.Proofs.Ytkmnjekpogbkkaa
