/-
  No cell of these rows narrows 'for every input' (looked for: loops, veiled, ifaces, maps, wideKeys, modest, calm, conditions, laid).
  DERIVED. THE GIVEN ROWS OF THIS SEAT. 12 by the template 'for every input the law returns true; each argument reads behind the call as it read before'; 0 by the template 'total and deterministic' (their statements: YtlbclpkmdfgokaaTotals.lean).
  GIVEN WITH THE SEED: the statements are not yours to turn. If you find one false, say at which input.
  Laid BY PROGRAM, IN A SANDBOX (cutbox-rows.mjs): the forced cells as the released guide's own fill.sh prints them over the translation 675c4f93a3f0f782… (all of the seat's roots in one cut). By AI agents, Wed Nov 11 2026. No macro, syntax, notation, axiom, sorry.
-/
import Derived.Test.YtlbclpkmdfgokaaChecked
import GoSem.Claim
import GoSem.ClaimJoined
import GoSem.ClaimMapViews
import Derived.JoinedTies
import Derived.KernelRfl
namespace Go.Proofs.Ytlbclpkmdfgokaa
/- THE CELL 'sum', in the pinned program and in every row, IS THE sha256 OF THE DUMP (.gsa) THAT YtlbclpkmdfgokaaProg.lean LOADS. Nothing in Lean hashes anything: it is a label: what it is worth is what the hold of that sum in a sandbox is worth. -/
noncomputable def Try.pinned : Pinned := { name := "ytlbclpkmdfgokaa", sum := "675c4f93a3f0f782a72a1d780ccf7dd66e326d276dbf36aa87077b667df5c659", checked := Try.checked }
namespace Rows
def none {H : Type} : Left H := { results := [], args := [] }

/-- 'laws.FnVector': WHATEVER THE INPUT: true; the input reads as it did. -/
def fnVectorSpec : ChangeSpec := { name := "fnVector", fn := fun _ => fun
  | [d] => { results := [.lit (.bool true)], args := [d] }
  | _ => none }
def fnVectorRow : OpenClaim := { program := "ytlbclpkmdfgokaa", sum := "675c4f93a3f0f782a72a1d780ccf7dd66e326d276dbf36aa87077b667df5c659", func := "loop.example/radiointerferometer/laws.FnVector", spec := "fnVector", apart := false }
def FnVectorSaid : Prop := fnVectorRow.holds Try.pinned (OpenSpec.ofChange fnVectorSpec)

/-- ITS FALSE NEIGHBOUR: 'it returns false'. Refute it at one input. -/
def fnVectorWrong : ChangeSpec := { name := "fnVector", fn := fun _ => fun
  | [d] => { results := [.lit (.bool false)], args := [d] }
  | _ => none }
def FnVectorWrongFalsely : Prop := fnVectorRow.holds Try.pinned (OpenSpec.ofChange fnVectorWrong)

/-- 'laws.FnVectorThree': WHATEVER THE INPUT: true; the input reads as it did. -/
def fnVectorThreeSpec : ChangeSpec := { name := "fnVectorThree", fn := fun _ => fun
  | [d1, d2] => { results := [.lit (.bool true)], args := [d1, d2] }
  | _ => none }
def fnVectorThreeRow : OpenClaim := { program := "ytlbclpkmdfgokaa", sum := "675c4f93a3f0f782a72a1d780ccf7dd66e326d276dbf36aa87077b667df5c659", func := "loop.example/radiointerferometer/laws.FnVectorThree", spec := "fnVectorThree", apart := false }
def FnVectorThreeSaid : Prop := fnVectorThreeRow.holds Try.pinned (OpenSpec.ofChange fnVectorThreeSpec)

/-- ITS FALSE NEIGHBOUR: 'it returns false'. Refute it at one input. -/
def fnVectorThreeWrong : ChangeSpec := { name := "fnVectorThree", fn := fun _ => fun
  | [d1, d2] => { results := [.lit (.bool false)], args := [d1, d2] }
  | _ => none }
def FnVectorThreeWrongFalsely : Prop := fnVectorThreeRow.holds Try.pinned (OpenSpec.ofChange fnVectorThreeWrong)

/-- 'laws.FnExactArrayShift': WHATEVER THE INPUT: true; the input reads as it did. -/
def fnExactArrayShiftSpec : ChangeSpec := { name := "fnExactArrayShift", fn := fun _ => fun
  | [d1, d2, d3] => { results := [.lit (.bool true)], args := [d1, d2, d3] }
  | _ => none }
def fnExactArrayShiftRow : OpenClaim := { program := "ytlbclpkmdfgokaa", sum := "675c4f93a3f0f782a72a1d780ccf7dd66e326d276dbf36aa87077b667df5c659", func := "loop.example/radiointerferometer/laws.FnExactArrayShift", spec := "fnExactArrayShift", apart := false }
def FnExactArrayShiftSaid : Prop := fnExactArrayShiftRow.holds Try.pinned (OpenSpec.ofChange fnExactArrayShiftSpec)

/-- ITS FALSE NEIGHBOUR: 'it returns false'. Refute it at one input. -/
def fnExactArrayShiftWrong : ChangeSpec := { name := "fnExactArrayShift", fn := fun _ => fun
  | [d1, d2, d3] => { results := [.lit (.bool false)], args := [d1, d2, d3] }
  | _ => none }
def FnExactArrayShiftWrongFalsely : Prop := fnExactArrayShiftRow.holds Try.pinned (OpenSpec.ofChange fnExactArrayShiftWrong)

/-- 'laws.FnShiftTwice': WHATEVER THE INPUT: true; the input reads as it did. -/
def fnShiftTwiceSpec : ChangeSpec := { name := "fnShiftTwice", fn := fun _ => fun
  | [d] => { results := [.lit (.bool true)], args := [d] }
  | _ => none }
def fnShiftTwiceRow : OpenClaim := { program := "ytlbclpkmdfgokaa", sum := "675c4f93a3f0f782a72a1d780ccf7dd66e326d276dbf36aa87077b667df5c659", func := "loop.example/radiointerferometer/laws.FnShiftTwice", spec := "fnShiftTwice", apart := false }
def FnShiftTwiceSaid : Prop := fnShiftTwiceRow.holds Try.pinned (OpenSpec.ofChange fnShiftTwiceSpec)

/-- ITS FALSE NEIGHBOUR: 'it returns false'. Refute it at one input. -/
def fnShiftTwiceWrong : ChangeSpec := { name := "fnShiftTwice", fn := fun _ => fun
  | [d] => { results := [.lit (.bool false)], args := [d] }
  | _ => none }
def FnShiftTwiceWrongFalsely : Prop := fnShiftTwiceRow.holds Try.pinned (OpenSpec.ofChange fnShiftTwiceWrong)

/-- 'laws.FnExactArrayTurn': WHATEVER THE INPUT: true; the input reads as it did. -/
def fnExactArrayTurnSpec : ChangeSpec := { name := "fnExactArrayTurn", fn := fun _ => fun
  | [d1, d2] => { results := [.lit (.bool true)], args := [d1, d2] }
  | _ => none }
def fnExactArrayTurnRow : OpenClaim := { program := "ytlbclpkmdfgokaa", sum := "675c4f93a3f0f782a72a1d780ccf7dd66e326d276dbf36aa87077b667df5c659", func := "loop.example/radiointerferometer/laws.FnExactArrayTurn", spec := "fnExactArrayTurn", apart := false }
def FnExactArrayTurnSaid : Prop := fnExactArrayTurnRow.holds Try.pinned (OpenSpec.ofChange fnExactArrayTurnSpec)

/-- ITS FALSE NEIGHBOUR: 'it returns false'. Refute it at one input. -/
def fnExactArrayTurnWrong : ChangeSpec := { name := "fnExactArrayTurn", fn := fun _ => fun
  | [d1, d2] => { results := [.lit (.bool false)], args := [d1, d2] }
  | _ => none }
def FnExactArrayTurnWrongFalsely : Prop := fnExactArrayTurnRow.holds Try.pinned (OpenSpec.ofChange fnExactArrayTurnWrong)

/-- 'laws.FnTurn': WHATEVER THE INPUT: true; the input reads as it did. -/
def fnTurnSpec : ChangeSpec := { name := "fnTurn", fn := fun _ => fun
  | [d] => { results := [.lit (.bool true)], args := [d] }
  | _ => none }
def fnTurnRow : OpenClaim := { program := "ytlbclpkmdfgokaa", sum := "675c4f93a3f0f782a72a1d780ccf7dd66e326d276dbf36aa87077b667df5c659", func := "loop.example/radiointerferometer/laws.FnTurn", spec := "fnTurn", apart := false }
def FnTurnSaid : Prop := fnTurnRow.holds Try.pinned (OpenSpec.ofChange fnTurnSpec)

/-- ITS FALSE NEIGHBOUR: 'it returns false'. Refute it at one input. -/
def fnTurnWrong : ChangeSpec := { name := "fnTurn", fn := fun _ => fun
  | [d] => { results := [.lit (.bool false)], args := [d] }
  | _ => none }
def FnTurnWrongFalsely : Prop := fnTurnRow.holds Try.pinned (OpenSpec.ofChange fnTurnWrong)

/-- 'laws.FnTurnOne': WHATEVER THE INPUT: true; the input reads as it did. -/
def fnTurnOneSpec : ChangeSpec := { name := "fnTurnOne", fn := fun _ => fun
  | [d] => { results := [.lit (.bool true)], args := [d] }
  | _ => none }
def fnTurnOneRow : OpenClaim := { program := "ytlbclpkmdfgokaa", sum := "675c4f93a3f0f782a72a1d780ccf7dd66e326d276dbf36aa87077b667df5c659", func := "loop.example/radiointerferometer/laws.FnTurnOne", spec := "fnTurnOne", apart := false }
def FnTurnOneSaid : Prop := fnTurnOneRow.holds Try.pinned (OpenSpec.ofChange fnTurnOneSpec)

/-- ITS FALSE NEIGHBOUR: 'it returns false'. Refute it at one input. -/
def fnTurnOneWrong : ChangeSpec := { name := "fnTurnOne", fn := fun _ => fun
  | [d] => { results := [.lit (.bool false)], args := [d] }
  | _ => none }
def FnTurnOneWrongFalsely : Prop := fnTurnOneRow.holds Try.pinned (OpenSpec.ofChange fnTurnOneWrong)

/-- 'laws.FnShift': WHATEVER THE INPUT: true; the input reads as it did. -/
def fnShiftSpec : ChangeSpec := { name := "fnShift", fn := fun _ => fun
  | [d1, d2] => { results := [.lit (.bool true)], args := [d1, d2] }
  | _ => none }
def fnShiftRow : OpenClaim := { program := "ytlbclpkmdfgokaa", sum := "675c4f93a3f0f782a72a1d780ccf7dd66e326d276dbf36aa87077b667df5c659", func := "loop.example/radiointerferometer/laws.FnShift", spec := "fnShift", apart := false }
def FnShiftSaid : Prop := fnShiftRow.holds Try.pinned (OpenSpec.ofChange fnShiftSpec)

/-- ITS FALSE NEIGHBOUR: 'it returns false'. Refute it at one input. -/
def fnShiftWrong : ChangeSpec := { name := "fnShift", fn := fun _ => fun
  | [d1, d2] => { results := [.lit (.bool false)], args := [d1, d2] }
  | _ => none }
def FnShiftWrongFalsely : Prop := fnShiftRow.holds Try.pinned (OpenSpec.ofChange fnShiftWrong)

/-- 'laws.FnTurnVector': WHATEVER THE INPUT: true; the input reads as it did. -/
def fnTurnVectorSpec : ChangeSpec := { name := "fnTurnVector", fn := fun _ => fun
  | [d1, d2] => { results := [.lit (.bool true)], args := [d1, d2] }
  | _ => none }
def fnTurnVectorRow : OpenClaim := { program := "ytlbclpkmdfgokaa", sum := "675c4f93a3f0f782a72a1d780ccf7dd66e326d276dbf36aa87077b667df5c659", func := "loop.example/radiointerferometer/laws.FnTurnVector", spec := "fnTurnVector", apart := false }
def FnTurnVectorSaid : Prop := fnTurnVectorRow.holds Try.pinned (OpenSpec.ofChange fnTurnVectorSpec)

/-- ITS FALSE NEIGHBOUR: 'it returns false'. Refute it at one input. -/
def fnTurnVectorWrong : ChangeSpec := { name := "fnTurnVector", fn := fun _ => fun
  | [d1, d2] => { results := [.lit (.bool false)], args := [d1, d2] }
  | _ => none }
def FnTurnVectorWrongFalsely : Prop := fnTurnVectorRow.holds Try.pinned (OpenSpec.ofChange fnTurnVectorWrong)

/-- 'laws.FnTurnShift': WHATEVER THE INPUT: true; the input reads as it did. -/
def fnTurnShiftSpec : ChangeSpec := { name := "fnTurnShift", fn := fun _ => fun
  | [d] => { results := [.lit (.bool true)], args := [d] }
  | _ => none }
def fnTurnShiftRow : OpenClaim := { program := "ytlbclpkmdfgokaa", sum := "675c4f93a3f0f782a72a1d780ccf7dd66e326d276dbf36aa87077b667df5c659", func := "loop.example/radiointerferometer/laws.FnTurnShift", spec := "fnTurnShift", apart := false }
def FnTurnShiftSaid : Prop := fnTurnShiftRow.holds Try.pinned (OpenSpec.ofChange fnTurnShiftSpec)

/-- ITS FALSE NEIGHBOUR: 'it returns false'. Refute it at one input. -/
def fnTurnShiftWrong : ChangeSpec := { name := "fnTurnShift", fn := fun _ => fun
  | [d] => { results := [.lit (.bool false)], args := [d] }
  | _ => none }
def FnTurnShiftWrongFalsely : Prop := fnTurnShiftRow.holds Try.pinned (OpenSpec.ofChange fnTurnShiftWrong)

/-- 'laws.FnDelayShift': WHATEVER THE INPUT: true; the input reads as it did. -/
def fnDelayShiftSpec : ChangeSpec := { name := "fnDelayShift", fn := fun _ => fun
  | [d] => { results := [.lit (.bool true)], args := [d] }
  | _ => none }
def fnDelayShiftRow : OpenClaim := { program := "ytlbclpkmdfgokaa", sum := "675c4f93a3f0f782a72a1d780ccf7dd66e326d276dbf36aa87077b667df5c659", func := "loop.example/radiointerferometer/laws.FnDelayShift", spec := "fnDelayShift", apart := false }
def FnDelayShiftSaid : Prop := fnDelayShiftRow.holds Try.pinned (OpenSpec.ofChange fnDelayShiftSpec)

/-- ITS FALSE NEIGHBOUR: 'it returns false'. Refute it at one input. -/
def fnDelayShiftWrong : ChangeSpec := { name := "fnDelayShift", fn := fun _ => fun
  | [d] => { results := [.lit (.bool false)], args := [d] }
  | _ => none }
def FnDelayShiftWrongFalsely : Prop := fnDelayShiftRow.holds Try.pinned (OpenSpec.ofChange fnDelayShiftWrong)

/-- 'laws.FnDelayTurn': WHATEVER THE INPUT: true; the input reads as it did. -/
def fnDelayTurnSpec : ChangeSpec := { name := "fnDelayTurn", fn := fun _ => fun
  | [d] => { results := [.lit (.bool true)], args := [d] }
  | _ => none }
def fnDelayTurnRow : OpenClaim := { program := "ytlbclpkmdfgokaa", sum := "675c4f93a3f0f782a72a1d780ccf7dd66e326d276dbf36aa87077b667df5c659", func := "loop.example/radiointerferometer/laws.FnDelayTurn", spec := "fnDelayTurn", apart := false }
def FnDelayTurnSaid : Prop := fnDelayTurnRow.holds Try.pinned (OpenSpec.ofChange fnDelayTurnSpec)

/-- ITS FALSE NEIGHBOUR: 'it returns false'. Refute it at one input. -/
def fnDelayTurnWrong : ChangeSpec := { name := "fnDelayTurn", fn := fun _ => fun
  | [d] => { results := [.lit (.bool false)], args := [d] }
  | _ => none }
def FnDelayTurnWrongFalsely : Prop := fnDelayTurnRow.holds Try.pinned (OpenSpec.ofChange fnDelayTurnWrong)

/- THE SECOND FORM. 'bulk': how many values and letters a reading holds, each counted each time it is reached (what is shared counts as often as it is met; a slice's spare places count too). A statement '..UptoSaid' is the law's where the arguments, and the package variables that the reading takes, are together of bulk at most 1048576: NARROWER than '..Said'. Prove '..Said' where nothing that the law and all that it calls make is longer than what came in: it says more and counts as full. Else prove '..UptoSaid'. A law counts once. -/
mutual
def uptoBulk {H : Type} : DataW H → Nat
  | .lit (.string bytes) => bytes.length + 1
  | .lit _ => 1
  | .nil => 1
  | .ptr d => uptoBulk d + 1
  | .slice elems spare => uptoBulkAll elems + uptoBulkAll spare + 1
  | .agg parts => uptoBulkAll parts + 1
  | .iface _ d => uptoBulk d + 1
  | .map entries => uptoBulkEntries entries + 1
  | .held _ => 1
def uptoBulkAll {H : Type} : List (DataW H) → Nat
  | [] => 0
  | d :: r => uptoBulk d + uptoBulkAll r
def uptoBulkEntries {H : Type} : List (Lit × DataW H) → Nat
  | [] => 0
  | x :: r => uptoBulkEntry x + uptoBulkEntries r
def uptoBulkEntry {H : Type} : Lit × DataW H → Nat
  | (.string bytes, d) => bytes.length + uptoBulk d + 1
  | (_, d) => uptoBulk d + 1
 end
def uptoSmall : (H : Type) → List (DataW H) → Bool := fun _ ds => decide (uptoBulkAll ds ≤ 1048576)
def OpenSpec.upto (s : _root_.Go.ChangeSpec) : _root_.Go.OpenSpec := { _root_.Go.OpenSpec.ofChange s with cond := some uptoSmall }

/-- 'laws.FnVector', WHERE WHAT IT READS IS OF BULK AT MOST 1048576: true; the input reads as it did. -/
def fnVectorUptoRow : OpenClaim := { program := "ytlbclpkmdfgokaa", sum := "675c4f93a3f0f782a72a1d780ccf7dd66e326d276dbf36aa87077b667df5c659", func := "loop.example/radiointerferometer/laws.FnVector", spec := "fnVector", apart := false, narrowed := true }
def FnVectorUptoSaid : Prop := fnVectorUptoRow.holds Try.pinned (OpenSpec.upto fnVectorSpec)

/-- 'laws.FnVectorThree', WHERE WHAT IT READS IS OF BULK AT MOST 1048576: true; the input reads as it did. -/
def fnVectorThreeUptoRow : OpenClaim := { program := "ytlbclpkmdfgokaa", sum := "675c4f93a3f0f782a72a1d780ccf7dd66e326d276dbf36aa87077b667df5c659", func := "loop.example/radiointerferometer/laws.FnVectorThree", spec := "fnVectorThree", apart := false, narrowed := true }
def FnVectorThreeUptoSaid : Prop := fnVectorThreeUptoRow.holds Try.pinned (OpenSpec.upto fnVectorThreeSpec)

/-- 'laws.FnExactArrayShift', WHERE WHAT IT READS IS OF BULK AT MOST 1048576: true; the input reads as it did. -/
def fnExactArrayShiftUptoRow : OpenClaim := { program := "ytlbclpkmdfgokaa", sum := "675c4f93a3f0f782a72a1d780ccf7dd66e326d276dbf36aa87077b667df5c659", func := "loop.example/radiointerferometer/laws.FnExactArrayShift", spec := "fnExactArrayShift", apart := false, narrowed := true }
def FnExactArrayShiftUptoSaid : Prop := fnExactArrayShiftUptoRow.holds Try.pinned (OpenSpec.upto fnExactArrayShiftSpec)

/-- 'laws.FnShiftTwice', WHERE WHAT IT READS IS OF BULK AT MOST 1048576: true; the input reads as it did. -/
def fnShiftTwiceUptoRow : OpenClaim := { program := "ytlbclpkmdfgokaa", sum := "675c4f93a3f0f782a72a1d780ccf7dd66e326d276dbf36aa87077b667df5c659", func := "loop.example/radiointerferometer/laws.FnShiftTwice", spec := "fnShiftTwice", apart := false, narrowed := true }
def FnShiftTwiceUptoSaid : Prop := fnShiftTwiceUptoRow.holds Try.pinned (OpenSpec.upto fnShiftTwiceSpec)

/-- 'laws.FnExactArrayTurn', WHERE WHAT IT READS IS OF BULK AT MOST 1048576: true; the input reads as it did. -/
def fnExactArrayTurnUptoRow : OpenClaim := { program := "ytlbclpkmdfgokaa", sum := "675c4f93a3f0f782a72a1d780ccf7dd66e326d276dbf36aa87077b667df5c659", func := "loop.example/radiointerferometer/laws.FnExactArrayTurn", spec := "fnExactArrayTurn", apart := false, narrowed := true }
def FnExactArrayTurnUptoSaid : Prop := fnExactArrayTurnUptoRow.holds Try.pinned (OpenSpec.upto fnExactArrayTurnSpec)

/-- 'laws.FnTurn', WHERE WHAT IT READS IS OF BULK AT MOST 1048576: true; the input reads as it did. -/
def fnTurnUptoRow : OpenClaim := { program := "ytlbclpkmdfgokaa", sum := "675c4f93a3f0f782a72a1d780ccf7dd66e326d276dbf36aa87077b667df5c659", func := "loop.example/radiointerferometer/laws.FnTurn", spec := "fnTurn", apart := false, narrowed := true }
def FnTurnUptoSaid : Prop := fnTurnUptoRow.holds Try.pinned (OpenSpec.upto fnTurnSpec)

/-- 'laws.FnTurnOne', WHERE WHAT IT READS IS OF BULK AT MOST 1048576: true; the input reads as it did. -/
def fnTurnOneUptoRow : OpenClaim := { program := "ytlbclpkmdfgokaa", sum := "675c4f93a3f0f782a72a1d780ccf7dd66e326d276dbf36aa87077b667df5c659", func := "loop.example/radiointerferometer/laws.FnTurnOne", spec := "fnTurnOne", apart := false, narrowed := true }
def FnTurnOneUptoSaid : Prop := fnTurnOneUptoRow.holds Try.pinned (OpenSpec.upto fnTurnOneSpec)

/-- 'laws.FnShift', WHERE WHAT IT READS IS OF BULK AT MOST 1048576: true; the input reads as it did. -/
def fnShiftUptoRow : OpenClaim := { program := "ytlbclpkmdfgokaa", sum := "675c4f93a3f0f782a72a1d780ccf7dd66e326d276dbf36aa87077b667df5c659", func := "loop.example/radiointerferometer/laws.FnShift", spec := "fnShift", apart := false, narrowed := true }
def FnShiftUptoSaid : Prop := fnShiftUptoRow.holds Try.pinned (OpenSpec.upto fnShiftSpec)

/-- 'laws.FnTurnVector', WHERE WHAT IT READS IS OF BULK AT MOST 1048576: true; the input reads as it did. -/
def fnTurnVectorUptoRow : OpenClaim := { program := "ytlbclpkmdfgokaa", sum := "675c4f93a3f0f782a72a1d780ccf7dd66e326d276dbf36aa87077b667df5c659", func := "loop.example/radiointerferometer/laws.FnTurnVector", spec := "fnTurnVector", apart := false, narrowed := true }
def FnTurnVectorUptoSaid : Prop := fnTurnVectorUptoRow.holds Try.pinned (OpenSpec.upto fnTurnVectorSpec)

/-- 'laws.FnTurnShift', WHERE WHAT IT READS IS OF BULK AT MOST 1048576: true; the input reads as it did. -/
def fnTurnShiftUptoRow : OpenClaim := { program := "ytlbclpkmdfgokaa", sum := "675c4f93a3f0f782a72a1d780ccf7dd66e326d276dbf36aa87077b667df5c659", func := "loop.example/radiointerferometer/laws.FnTurnShift", spec := "fnTurnShift", apart := false, narrowed := true }
def FnTurnShiftUptoSaid : Prop := fnTurnShiftUptoRow.holds Try.pinned (OpenSpec.upto fnTurnShiftSpec)

/-- 'laws.FnDelayShift', WHERE WHAT IT READS IS OF BULK AT MOST 1048576: true; the input reads as it did. -/
def fnDelayShiftUptoRow : OpenClaim := { program := "ytlbclpkmdfgokaa", sum := "675c4f93a3f0f782a72a1d780ccf7dd66e326d276dbf36aa87077b667df5c659", func := "loop.example/radiointerferometer/laws.FnDelayShift", spec := "fnDelayShift", apart := false, narrowed := true }
def FnDelayShiftUptoSaid : Prop := fnDelayShiftUptoRow.holds Try.pinned (OpenSpec.upto fnDelayShiftSpec)

/-- 'laws.FnDelayTurn', WHERE WHAT IT READS IS OF BULK AT MOST 1048576: true; the input reads as it did. -/
def fnDelayTurnUptoRow : OpenClaim := { program := "ytlbclpkmdfgokaa", sum := "675c4f93a3f0f782a72a1d780ccf7dd66e326d276dbf36aa87077b667df5c659", func := "loop.example/radiointerferometer/laws.FnDelayTurn", spec := "fnDelayTurn", apart := false, narrowed := true }
def FnDelayTurnUptoSaid : Prop := fnDelayTurnUptoRow.holds Try.pinned (OpenSpec.upto fnDelayTurnSpec)

end Rows
end Go.Proofs.Ytlbclpkmdfgokaa
