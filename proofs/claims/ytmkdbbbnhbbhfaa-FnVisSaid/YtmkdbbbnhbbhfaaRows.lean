/-
  No cell of these rows narrows 'for every input' (looked for: loops, veiled, ifaces, maps, wideKeys, modest, calm, conditions, laid).
  DERIVED. THE GIVEN ROWS OF THIS SEAT. 7 by the template 'for every input the law returns true; each argument reads behind the call as it read before'; 0 by the template 'total and deterministic' (their statements: YtmkdbbbnhbbhfaaTotals.lean).
  GIVEN WITH THE SEED: the statements are not yours to turn. If you find one false, say at which input.
  Laid BY PROGRAM, IN A SANDBOX (cutbox-rows.mjs): the forced cells as the released guide's own fill.sh prints them over the translation 867faec5d5a602de… (all of the seat's roots in one cut). By AI agents, Wed Nov 11 2026. No macro, syntax, notation, axiom, sorry.
-/
import Derived.Test.YtmkdbbbnhbbhfaaChecked
import GoSem.Claim
import GoSem.ClaimJoined
import GoSem.ClaimMapViews
import Derived.JoinedTies
import Derived.KernelRfl
namespace Go.Proofs.Ytmkdbbbnhbbhfaa
/- THE CELL 'sum', in the pinned program and in every row, IS THE sha256 OF THE DUMP (.gsa) THAT YtmkdbbbnhbbhfaaProg.lean LOADS. Nothing in Lean hashes anything: it is a label: what it is worth is what the hold of that sum in a sandbox is worth. -/
noncomputable def Try.pinned : Pinned := { name := "ytmkdbbbnhbbhfaa", sum := "867faec5d5a602de17173242ba5e6fd473dca89126fe9f24d25fa00ac3789ed9", checked := Try.checked }
namespace Rows
def none {H : Type} : Left H := { results := [], args := [] }

/-- 'laws.FnExactGainsValid': WHATEVER THE INPUT: true; the input reads as it did. -/
def fnExactGainsValidSpec : ChangeSpec := { name := "fnExactGainsValid", fn := fun _ => fun
  | [d1, d2] => { results := [.lit (.bool true)], args := [d1, d2] }
  | _ => none }
def fnExactGainsValidRow : OpenClaim := { program := "ytmkdbbbnhbbhfaa", sum := "867faec5d5a602de17173242ba5e6fd473dca89126fe9f24d25fa00ac3789ed9", func := "loop.example/radiointerferometer/laws.FnExactGainsValid", spec := "fnExactGainsValid", apart := false }
def FnExactGainsValidSaid : Prop := fnExactGainsValidRow.holds Try.pinned (OpenSpec.ofChange fnExactGainsValidSpec)

/-- ITS FALSE NEIGHBOUR: 'it returns false'. Refute it at one input. -/
def fnExactGainsValidWrong : ChangeSpec := { name := "fnExactGainsValid", fn := fun _ => fun
  | [d1, d2] => { results := [.lit (.bool false)], args := [d1, d2] }
  | _ => none }
def FnExactGainsValidWrongFalsely : Prop := fnExactGainsValidRow.holds Try.pinned (OpenSpec.ofChange fnExactGainsValidWrong)

/-- 'laws.FnExactVisValid': WHATEVER THE INPUT: true; the input reads as it did. -/
def fnExactVisValidSpec : ChangeSpec := { name := "fnExactVisValid", fn := fun _ => fun
  | [d1, d2] => { results := [.lit (.bool true)], args := [d1, d2] }
  | _ => none }
def fnExactVisValidRow : OpenClaim := { program := "ytmkdbbbnhbbhfaa", sum := "867faec5d5a602de17173242ba5e6fd473dca89126fe9f24d25fa00ac3789ed9", func := "loop.example/radiointerferometer/laws.FnExactVisValid", spec := "fnExactVisValid", apart := false }
def FnExactVisValidSaid : Prop := fnExactVisValidRow.holds Try.pinned (OpenSpec.ofChange fnExactVisValidSpec)

/-- ITS FALSE NEIGHBOUR: 'it returns false'. Refute it at one input. -/
def fnExactVisValidWrong : ChangeSpec := { name := "fnExactVisValid", fn := fun _ => fun
  | [d1, d2] => { results := [.lit (.bool false)], args := [d1, d2] }
  | _ => none }
def FnExactVisValidWrongFalsely : Prop := fnExactVisValidRow.holds Try.pinned (OpenSpec.ofChange fnExactVisValidWrong)

/-- 'laws.FnGains': WHATEVER THE INPUT: true; the input reads as it did. -/
def fnGainsSpec : ChangeSpec := { name := "fnGains", fn := fun _ => fun
  | [d1, d2] => { results := [.lit (.bool true)], args := [d1, d2] }
  | _ => none }
def fnGainsRow : OpenClaim := { program := "ytmkdbbbnhbbhfaa", sum := "867faec5d5a602de17173242ba5e6fd473dca89126fe9f24d25fa00ac3789ed9", func := "loop.example/radiointerferometer/laws.FnGains", spec := "fnGains", apart := false }
def FnGainsSaid : Prop := fnGainsRow.holds Try.pinned (OpenSpec.ofChange fnGainsSpec)

/-- ITS FALSE NEIGHBOUR: 'it returns false'. Refute it at one input. -/
def fnGainsWrong : ChangeSpec := { name := "fnGains", fn := fun _ => fun
  | [d1, d2] => { results := [.lit (.bool false)], args := [d1, d2] }
  | _ => none }
def FnGainsWrongFalsely : Prop := fnGainsRow.holds Try.pinned (OpenSpec.ofChange fnGainsWrong)

/-- 'laws.FnVis': WHATEVER THE INPUT: true; the input reads as it did. -/
def fnVisSpec : ChangeSpec := { name := "fnVis", fn := fun _ => fun
  | [d1, d2] => { results := [.lit (.bool true)], args := [d1, d2] }
  | _ => none }
def fnVisRow : OpenClaim := { program := "ytmkdbbbnhbbhfaa", sum := "867faec5d5a602de17173242ba5e6fd473dca89126fe9f24d25fa00ac3789ed9", func := "loop.example/radiointerferometer/laws.FnVis", spec := "fnVis", apart := false }
def FnVisSaid : Prop := fnVisRow.holds Try.pinned (OpenSpec.ofChange fnVisSpec)

/-- ITS FALSE NEIGHBOUR: 'it returns false'. Refute it at one input. -/
def fnVisWrong : ChangeSpec := { name := "fnVis", fn := fun _ => fun
  | [d1, d2] => { results := [.lit (.bool false)], args := [d1, d2] }
  | _ => none }
def FnVisWrongFalsely : Prop := fnVisRow.holds Try.pinned (OpenSpec.ofChange fnVisWrong)

/-- 'laws.FnExactGainTurn': WHATEVER THE INPUT: true; the input reads as it did. -/
def fnExactGainTurnSpec : ChangeSpec := { name := "fnExactGainTurn", fn := fun _ => fun
  | [d1, d2, d3] => { results := [.lit (.bool true)], args := [d1, d2, d3] }
  | _ => none }
def fnExactGainTurnRow : OpenClaim := { program := "ytmkdbbbnhbbhfaa", sum := "867faec5d5a602de17173242ba5e6fd473dca89126fe9f24d25fa00ac3789ed9", func := "loop.example/radiointerferometer/laws.FnExactGainTurn", spec := "fnExactGainTurn", apart := false }
def FnExactGainTurnSaid : Prop := fnExactGainTurnRow.holds Try.pinned (OpenSpec.ofChange fnExactGainTurnSpec)

/-- ITS FALSE NEIGHBOUR: 'it returns false'. Refute it at one input. -/
def fnExactGainTurnWrong : ChangeSpec := { name := "fnExactGainTurn", fn := fun _ => fun
  | [d1, d2, d3] => { results := [.lit (.bool false)], args := [d1, d2, d3] }
  | _ => none }
def FnExactGainTurnWrongFalsely : Prop := fnExactGainTurnRow.holds Try.pinned (OpenSpec.ofChange fnExactGainTurnWrong)

/-- 'laws.FnExactVisPhases': WHATEVER THE INPUT: true; the input reads as it did. -/
def fnExactVisPhasesSpec : ChangeSpec := { name := "fnExactVisPhases", fn := fun _ => fun
  | [d1, d2] => { results := [.lit (.bool true)], args := [d1, d2] }
  | _ => none }
def fnExactVisPhasesRow : OpenClaim := { program := "ytmkdbbbnhbbhfaa", sum := "867faec5d5a602de17173242ba5e6fd473dca89126fe9f24d25fa00ac3789ed9", func := "loop.example/radiointerferometer/laws.FnExactVisPhases", spec := "fnExactVisPhases", apart := false }
def FnExactVisPhasesSaid : Prop := fnExactVisPhasesRow.holds Try.pinned (OpenSpec.ofChange fnExactVisPhasesSpec)

/-- ITS FALSE NEIGHBOUR: 'it returns false'. Refute it at one input. -/
def fnExactVisPhasesWrong : ChangeSpec := { name := "fnExactVisPhases", fn := fun _ => fun
  | [d1, d2] => { results := [.lit (.bool false)], args := [d1, d2] }
  | _ => none }
def FnExactVisPhasesWrongFalsely : Prop := fnExactVisPhasesRow.holds Try.pinned (OpenSpec.ofChange fnExactVisPhasesWrong)

/-- 'laws.FnGainTurn': WHATEVER THE INPUT: true; the input reads as it did. -/
def fnGainTurnSpec : ChangeSpec := { name := "fnGainTurn", fn := fun _ => fun
  | [d] => { results := [.lit (.bool true)], args := [d] }
  | _ => none }
def fnGainTurnRow : OpenClaim := { program := "ytmkdbbbnhbbhfaa", sum := "867faec5d5a602de17173242ba5e6fd473dca89126fe9f24d25fa00ac3789ed9", func := "loop.example/radiointerferometer/laws.FnGainTurn", spec := "fnGainTurn", apart := false }
def FnGainTurnSaid : Prop := fnGainTurnRow.holds Try.pinned (OpenSpec.ofChange fnGainTurnSpec)

/-- ITS FALSE NEIGHBOUR: 'it returns false'. Refute it at one input. -/
def fnGainTurnWrong : ChangeSpec := { name := "fnGainTurn", fn := fun _ => fun
  | [d] => { results := [.lit (.bool false)], args := [d] }
  | _ => none }
def FnGainTurnWrongFalsely : Prop := fnGainTurnRow.holds Try.pinned (OpenSpec.ofChange fnGainTurnWrong)

/- THE SECOND FORM. 'bulk': how many values and letters a reading holds, each counted each time it is reached (what is shared counts as often as it is met; a slice's spare places count too). A statement '..UptoSaid' is the law's where the arguments, and the package variables that the reading takes, are together of bulk at most 1048576: NARROWER than '..Said'. Prove '..Said' where nothing that the law and all that it calls make is longer than what came in: it says more and counts as full. Else prove '..UptoSaid'. A law counts once. -/
mutual
def uptoBulk {H : Type} : DataW H → Nat
  | .lit (.string bytes) => bytes.length + 1
  | .lit _ => 1
  | .nil => 1
  | .ptr d => uptoBulk d + 1
  | .slice elems spare => uptoBulkAll elems + uptoBulkAll spare + 1
  | .agg parts => uptoBulkAll parts + 1
  | .iface _ d => uptoBulk d + 1
  | .map entries => uptoBulkEntries entries + 1
  | .held _ => 1
def uptoBulkAll {H : Type} : List (DataW H) → Nat
  | [] => 0
  | d :: r => uptoBulk d + uptoBulkAll r
def uptoBulkEntries {H : Type} : List (Lit × DataW H) → Nat
  | [] => 0
  | x :: r => uptoBulkEntry x + uptoBulkEntries r
def uptoBulkEntry {H : Type} : Lit × DataW H → Nat
  | (.string bytes, d) => bytes.length + uptoBulk d + 1
  | (_, d) => uptoBulk d + 1
 end
def uptoSmall : (H : Type) → List (DataW H) → Bool := fun _ ds => decide (uptoBulkAll ds ≤ 1048576)
def OpenSpec.upto (s : _root_.Go.ChangeSpec) : _root_.Go.OpenSpec := { _root_.Go.OpenSpec.ofChange s with cond := some uptoSmall }

/-- 'laws.FnExactGainsValid', WHERE WHAT IT READS IS OF BULK AT MOST 1048576: true; the input reads as it did. -/
def fnExactGainsValidUptoRow : OpenClaim := { program := "ytmkdbbbnhbbhfaa", sum := "867faec5d5a602de17173242ba5e6fd473dca89126fe9f24d25fa00ac3789ed9", func := "loop.example/radiointerferometer/laws.FnExactGainsValid", spec := "fnExactGainsValid", apart := false, narrowed := true }
def FnExactGainsValidUptoSaid : Prop := fnExactGainsValidUptoRow.holds Try.pinned (OpenSpec.upto fnExactGainsValidSpec)

/-- 'laws.FnExactVisValid', WHERE WHAT IT READS IS OF BULK AT MOST 1048576: true; the input reads as it did. -/
def fnExactVisValidUptoRow : OpenClaim := { program := "ytmkdbbbnhbbhfaa", sum := "867faec5d5a602de17173242ba5e6fd473dca89126fe9f24d25fa00ac3789ed9", func := "loop.example/radiointerferometer/laws.FnExactVisValid", spec := "fnExactVisValid", apart := false, narrowed := true }
def FnExactVisValidUptoSaid : Prop := fnExactVisValidUptoRow.holds Try.pinned (OpenSpec.upto fnExactVisValidSpec)

/-- 'laws.FnGains', WHERE WHAT IT READS IS OF BULK AT MOST 1048576: true; the input reads as it did. -/
def fnGainsUptoRow : OpenClaim := { program := "ytmkdbbbnhbbhfaa", sum := "867faec5d5a602de17173242ba5e6fd473dca89126fe9f24d25fa00ac3789ed9", func := "loop.example/radiointerferometer/laws.FnGains", spec := "fnGains", apart := false, narrowed := true }
def FnGainsUptoSaid : Prop := fnGainsUptoRow.holds Try.pinned (OpenSpec.upto fnGainsSpec)

/-- 'laws.FnVis', WHERE WHAT IT READS IS OF BULK AT MOST 1048576: true; the input reads as it did. -/
def fnVisUptoRow : OpenClaim := { program := "ytmkdbbbnhbbhfaa", sum := "867faec5d5a602de17173242ba5e6fd473dca89126fe9f24d25fa00ac3789ed9", func := "loop.example/radiointerferometer/laws.FnVis", spec := "fnVis", apart := false, narrowed := true }
def FnVisUptoSaid : Prop := fnVisUptoRow.holds Try.pinned (OpenSpec.upto fnVisSpec)

/-- 'laws.FnExactGainTurn', WHERE WHAT IT READS IS OF BULK AT MOST 1048576: true; the input reads as it did. -/
def fnExactGainTurnUptoRow : OpenClaim := { program := "ytmkdbbbnhbbhfaa", sum := "867faec5d5a602de17173242ba5e6fd473dca89126fe9f24d25fa00ac3789ed9", func := "loop.example/radiointerferometer/laws.FnExactGainTurn", spec := "fnExactGainTurn", apart := false, narrowed := true }
def FnExactGainTurnUptoSaid : Prop := fnExactGainTurnUptoRow.holds Try.pinned (OpenSpec.upto fnExactGainTurnSpec)

/-- 'laws.FnExactVisPhases', WHERE WHAT IT READS IS OF BULK AT MOST 1048576: true; the input reads as it did. -/
def fnExactVisPhasesUptoRow : OpenClaim := { program := "ytmkdbbbnhbbhfaa", sum := "867faec5d5a602de17173242ba5e6fd473dca89126fe9f24d25fa00ac3789ed9", func := "loop.example/radiointerferometer/laws.FnExactVisPhases", spec := "fnExactVisPhases", apart := false, narrowed := true }
def FnExactVisPhasesUptoSaid : Prop := fnExactVisPhasesUptoRow.holds Try.pinned (OpenSpec.upto fnExactVisPhasesSpec)

/-- 'laws.FnGainTurn', WHERE WHAT IT READS IS OF BULK AT MOST 1048576: true; the input reads as it did. -/
def fnGainTurnUptoRow : OpenClaim := { program := "ytmkdbbbnhbbhfaa", sum := "867faec5d5a602de17173242ba5e6fd473dca89126fe9f24d25fa00ac3789ed9", func := "loop.example/radiointerferometer/laws.FnGainTurn", spec := "fnGainTurn", apart := false, narrowed := true }
def FnGainTurnUptoSaid : Prop := fnGainTurnUptoRow.holds Try.pinned (OpenSpec.upto fnGainTurnSpec)

end Rows
end Go.Proofs.Ytmkdbbbnhbbhfaa
