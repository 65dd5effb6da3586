/-
  No cell of these rows narrows 'for every input' (looked for: loops, veiled, ifaces, maps, wideKeys, modest, calm, conditions, laid).
  DERIVED. THE GIVEN ROWS OF THIS SEAT. 11 by the template 'for every input the law returns true; each argument reads behind the call as it read before'; 0 by the template 'total and deterministic' (their statements: YtjjogggallapjaaTotals.lean).
  GIVEN WITH THE SEED: the statements are not yours to turn. If you find one false, say at which input.
  Laid BY PROGRAM, IN A SANDBOX (cutbox-rows.mjs): the forced cells as the released guide's own fill.sh prints them over the translation ad2dd651e8b1e247… (all of the seat's roots in one cut). By AI agents, Wed Nov 11 2026. No macro, syntax, notation, axiom, sorry.
-/
import Derived.Test.YtjjogggallapjaaChecked
import GoSem.Claim
import GoSem.ClaimJoined
import GoSem.ClaimMapViews
import Derived.JoinedTies
import Derived.KernelRfl
namespace Go.Proofs.Ytjjogggallapjaa
/- THE CELL 'sum', in the pinned program and in every row, IS THE sha256 OF THE DUMP (.gsa) THAT YtjjogggallapjaaProg.lean LOADS. Nothing in Lean hashes anything: it is a label: what it is worth is what the hold of that sum in a sandbox is worth. -/
noncomputable def Try.pinned : Pinned := { name := "ytjjogggallapjaa", sum := "ad2dd651e8b1e247929922b8aaac6bdba4dfe02472329308e1db1f0d491424ff", checked := Try.checked }
namespace Rows
def none {H : Type} : Left H := { results := [], args := [] }

/-- 'laws.FnExactDelayOf': WHATEVER THE INPUT: true; the input reads as it did. -/
def fnExactDelayOfSpec : ChangeSpec := { name := "fnExactDelayOf", fn := fun _ => fun
  | [d1, d2, d3] => { results := [.lit (.bool true)], args := [d1, d2, d3] }
  | _ => none }
def fnExactDelayOfRow : OpenClaim := { program := "ytjjogggallapjaa", sum := "ad2dd651e8b1e247929922b8aaac6bdba4dfe02472329308e1db1f0d491424ff", func := "loop.example/radiointerferometer/laws.FnExactDelayOf", spec := "fnExactDelayOf", apart := false }
def FnExactDelayOfSaid : Prop := fnExactDelayOfRow.holds Try.pinned (OpenSpec.ofChange fnExactDelayOfSpec)

/-- ITS FALSE NEIGHBOUR: 'it returns false'. Refute it at one input. -/
def fnExactDelayOfWrong : ChangeSpec := { name := "fnExactDelayOf", fn := fun _ => fun
  | [d1, d2, d3] => { results := [.lit (.bool false)], args := [d1, d2, d3] }
  | _ => none }
def FnExactDelayOfWrongFalsely : Prop := fnExactDelayOfRow.holds Try.pinned (OpenSpec.ofChange fnExactDelayOfWrong)

/-- 'laws.FnExactDelayBase': WHATEVER THE INPUT: true; the input reads as it did. -/
def fnExactDelayBaseSpec : ChangeSpec := { name := "fnExactDelayBase", fn := fun _ => fun
  | [d1, d2, d3, d4] => { results := [.lit (.bool true)], args := [d1, d2, d3, d4] }
  | _ => none }
def fnExactDelayBaseRow : OpenClaim := { program := "ytjjogggallapjaa", sum := "ad2dd651e8b1e247929922b8aaac6bdba4dfe02472329308e1db1f0d491424ff", func := "loop.example/radiointerferometer/laws.FnExactDelayBase", spec := "fnExactDelayBase", apart := false }
def FnExactDelayBaseSaid : Prop := fnExactDelayBaseRow.holds Try.pinned (OpenSpec.ofChange fnExactDelayBaseSpec)

/-- ITS FALSE NEIGHBOUR: 'it returns false'. Refute it at one input. -/
def fnExactDelayBaseWrong : ChangeSpec := { name := "fnExactDelayBase", fn := fun _ => fun
  | [d1, d2, d3, d4] => { results := [.lit (.bool false)], args := [d1, d2, d3, d4] }
  | _ => none }
def FnExactDelayBaseWrongFalsely : Prop := fnExactDelayBaseRow.holds Try.pinned (OpenSpec.ofChange fnExactDelayBaseWrong)

/-- 'laws.FnDelay': WHATEVER THE INPUT: true; the input reads as it did. -/
def fnDelaySpec : ChangeSpec := { name := "fnDelay", fn := fun _ => fun
  | [d] => { results := [.lit (.bool true)], args := [d] }
  | _ => none }
def fnDelayRow : OpenClaim := { program := "ytjjogggallapjaa", sum := "ad2dd651e8b1e247929922b8aaac6bdba4dfe02472329308e1db1f0d491424ff", func := "loop.example/radiointerferometer/laws.FnDelay", spec := "fnDelay", apart := false }
def FnDelaySaid : Prop := fnDelayRow.holds Try.pinned (OpenSpec.ofChange fnDelaySpec)

/-- ITS FALSE NEIGHBOUR: 'it returns false'. Refute it at one input. -/
def fnDelayWrong : ChangeSpec := { name := "fnDelay", fn := fun _ => fun
  | [d] => { results := [.lit (.bool false)], args := [d] }
  | _ => none }
def FnDelayWrongFalsely : Prop := fnDelayRow.holds Try.pinned (OpenSpec.ofChange fnDelayWrong)

/-- 'laws.FnDelayAdd': WHATEVER THE INPUT: true; the input reads as it did. -/
def fnDelayAddSpec : ChangeSpec := { name := "fnDelayAdd", fn := fun _ => fun
  | [d] => { results := [.lit (.bool true)], args := [d] }
  | _ => none }
def fnDelayAddRow : OpenClaim := { program := "ytjjogggallapjaa", sum := "ad2dd651e8b1e247929922b8aaac6bdba4dfe02472329308e1db1f0d491424ff", func := "loop.example/radiointerferometer/laws.FnDelayAdd", spec := "fnDelayAdd", apart := false }
def FnDelayAddSaid : Prop := fnDelayAddRow.holds Try.pinned (OpenSpec.ofChange fnDelayAddSpec)

/-- ITS FALSE NEIGHBOUR: 'it returns false'. Refute it at one input. -/
def fnDelayAddWrong : ChangeSpec := { name := "fnDelayAdd", fn := fun _ => fun
  | [d] => { results := [.lit (.bool false)], args := [d] }
  | _ => none }
def FnDelayAddWrongFalsely : Prop := fnDelayAddRow.holds Try.pinned (OpenSpec.ofChange fnDelayAddWrong)

/-- 'laws.FnDelayTwice': WHATEVER THE INPUT: true; the input reads as it did. -/
def fnDelayTwiceSpec : ChangeSpec := { name := "fnDelayTwice", fn := fun _ => fun
  | [d] => { results := [.lit (.bool true)], args := [d] }
  | _ => none }
def fnDelayTwiceRow : OpenClaim := { program := "ytjjogggallapjaa", sum := "ad2dd651e8b1e247929922b8aaac6bdba4dfe02472329308e1db1f0d491424ff", func := "loop.example/radiointerferometer/laws.FnDelayTwice", spec := "fnDelayTwice", apart := false }
def FnDelayTwiceSaid : Prop := fnDelayTwiceRow.holds Try.pinned (OpenSpec.ofChange fnDelayTwiceSpec)

/-- ITS FALSE NEIGHBOUR: 'it returns false'. Refute it at one input. -/
def fnDelayTwiceWrong : ChangeSpec := { name := "fnDelayTwice", fn := fun _ => fun
  | [d] => { results := [.lit (.bool false)], args := [d] }
  | _ => none }
def FnDelayTwiceWrongFalsely : Prop := fnDelayTwiceRow.holds Try.pinned (OpenSpec.ofChange fnDelayTwiceWrong)

/-- 'laws.FnDelayThree': WHATEVER THE INPUT: true; the input reads as it did. -/
def fnDelayThreeSpec : ChangeSpec := { name := "fnDelayThree", fn := fun _ => fun
  | [d1, d2] => { results := [.lit (.bool true)], args := [d1, d2] }
  | _ => none }
def fnDelayThreeRow : OpenClaim := { program := "ytjjogggallapjaa", sum := "ad2dd651e8b1e247929922b8aaac6bdba4dfe02472329308e1db1f0d491424ff", func := "loop.example/radiointerferometer/laws.FnDelayThree", spec := "fnDelayThree", apart := false }
def FnDelayThreeSaid : Prop := fnDelayThreeRow.holds Try.pinned (OpenSpec.ofChange fnDelayThreeSpec)

/-- ITS FALSE NEIGHBOUR: 'it returns false'. Refute it at one input. -/
def fnDelayThreeWrong : ChangeSpec := { name := "fnDelayThree", fn := fun _ => fun
  | [d1, d2] => { results := [.lit (.bool false)], args := [d1, d2] }
  | _ => none }
def FnDelayThreeWrongFalsely : Prop := fnDelayThreeRow.holds Try.pinned (OpenSpec.ofChange fnDelayThreeWrong)

/-- 'laws.FnExactDelayPhase': WHATEVER THE INPUT: true; the input reads as it did. -/
def fnExactDelayPhaseSpec : ChangeSpec := { name := "fnExactDelayPhase", fn := fun _ => fun
  | [d1, d2, d3, d4] => { results := [.lit (.bool true)], args := [d1, d2, d3, d4] }
  | _ => none }
def fnExactDelayPhaseRow : OpenClaim := { program := "ytjjogggallapjaa", sum := "ad2dd651e8b1e247929922b8aaac6bdba4dfe02472329308e1db1f0d491424ff", func := "loop.example/radiointerferometer/laws.FnExactDelayPhase", spec := "fnExactDelayPhase", apart := false }
def FnExactDelayPhaseSaid : Prop := fnExactDelayPhaseRow.holds Try.pinned (OpenSpec.ofChange fnExactDelayPhaseSpec)

/-- ITS FALSE NEIGHBOUR: 'it returns false'. Refute it at one input. -/
def fnExactDelayPhaseWrong : ChangeSpec := { name := "fnExactDelayPhase", fn := fun _ => fun
  | [d1, d2, d3, d4] => { results := [.lit (.bool false)], args := [d1, d2, d3, d4] }
  | _ => none }
def FnExactDelayPhaseWrongFalsely : Prop := fnExactDelayPhaseRow.holds Try.pinned (OpenSpec.ofChange fnExactDelayPhaseWrong)

/-- 'laws.FnDelayBase': WHATEVER THE INPUT: true; the input reads as it did. -/
def fnDelayBaseSpec : ChangeSpec := { name := "fnDelayBase", fn := fun _ => fun
  | [d] => { results := [.lit (.bool true)], args := [d] }
  | _ => none }
def fnDelayBaseRow : OpenClaim := { program := "ytjjogggallapjaa", sum := "ad2dd651e8b1e247929922b8aaac6bdba4dfe02472329308e1db1f0d491424ff", func := "loop.example/radiointerferometer/laws.FnDelayBase", spec := "fnDelayBase", apart := false }
def FnDelayBaseSaid : Prop := fnDelayBaseRow.holds Try.pinned (OpenSpec.ofChange fnDelayBaseSpec)

/-- ITS FALSE NEIGHBOUR: 'it returns false'. Refute it at one input. -/
def fnDelayBaseWrong : ChangeSpec := { name := "fnDelayBase", fn := fun _ => fun
  | [d] => { results := [.lit (.bool false)], args := [d] }
  | _ => none }
def FnDelayBaseWrongFalsely : Prop := fnDelayBaseRow.holds Try.pinned (OpenSpec.ofChange fnDelayBaseWrong)

/-- 'laws.FnExactDelayLoop': WHATEVER THE INPUT: true; the input reads as it did. -/
def fnExactDelayLoopSpec : ChangeSpec := { name := "fnExactDelayLoop", fn := fun _ => fun
  | [d1, d2, d3] => { results := [.lit (.bool true)], args := [d1, d2, d3] }
  | _ => none }
def fnExactDelayLoopRow : OpenClaim := { program := "ytjjogggallapjaa", sum := "ad2dd651e8b1e247929922b8aaac6bdba4dfe02472329308e1db1f0d491424ff", func := "loop.example/radiointerferometer/laws.FnExactDelayLoop", spec := "fnExactDelayLoop", apart := false }
def FnExactDelayLoopSaid : Prop := fnExactDelayLoopRow.holds Try.pinned (OpenSpec.ofChange fnExactDelayLoopSpec)

/-- ITS FALSE NEIGHBOUR: 'it returns false'. Refute it at one input. -/
def fnExactDelayLoopWrong : ChangeSpec := { name := "fnExactDelayLoop", fn := fun _ => fun
  | [d1, d2, d3] => { results := [.lit (.bool false)], args := [d1, d2, d3] }
  | _ => none }
def FnExactDelayLoopWrongFalsely : Prop := fnExactDelayLoopRow.holds Try.pinned (OpenSpec.ofChange fnExactDelayLoopWrong)

/-- 'laws.FnDelayLoop': WHATEVER THE INPUT: true; the input reads as it did. -/
def fnDelayLoopSpec : ChangeSpec := { name := "fnDelayLoop", fn := fun _ => fun
  | [d] => { results := [.lit (.bool true)], args := [d] }
  | _ => none }
def fnDelayLoopRow : OpenClaim := { program := "ytjjogggallapjaa", sum := "ad2dd651e8b1e247929922b8aaac6bdba4dfe02472329308e1db1f0d491424ff", func := "loop.example/radiointerferometer/laws.FnDelayLoop", spec := "fnDelayLoop", apart := false }
def FnDelayLoopSaid : Prop := fnDelayLoopRow.holds Try.pinned (OpenSpec.ofChange fnDelayLoopSpec)

/-- ITS FALSE NEIGHBOUR: 'it returns false'. Refute it at one input. -/
def fnDelayLoopWrong : ChangeSpec := { name := "fnDelayLoop", fn := fun _ => fun
  | [d] => { results := [.lit (.bool false)], args := [d] }
  | _ => none }
def FnDelayLoopWrongFalsely : Prop := fnDelayLoopRow.holds Try.pinned (OpenSpec.ofChange fnDelayLoopWrong)

/-- 'laws.FnDelayLoopMore': WHATEVER THE INPUT: true; the input reads as it did. -/
def fnDelayLoopMoreSpec : ChangeSpec := { name := "fnDelayLoopMore", fn := fun _ => fun
  | [d] => { results := [.lit (.bool true)], args := [d] }
  | _ => none }
def fnDelayLoopMoreRow : OpenClaim := { program := "ytjjogggallapjaa", sum := "ad2dd651e8b1e247929922b8aaac6bdba4dfe02472329308e1db1f0d491424ff", func := "loop.example/radiointerferometer/laws.FnDelayLoopMore", spec := "fnDelayLoopMore", apart := false }
def FnDelayLoopMoreSaid : Prop := fnDelayLoopMoreRow.holds Try.pinned (OpenSpec.ofChange fnDelayLoopMoreSpec)

/-- ITS FALSE NEIGHBOUR: 'it returns false'. Refute it at one input. -/
def fnDelayLoopMoreWrong : ChangeSpec := { name := "fnDelayLoopMore", fn := fun _ => fun
  | [d] => { results := [.lit (.bool false)], args := [d] }
  | _ => none }
def FnDelayLoopMoreWrongFalsely : Prop := fnDelayLoopMoreRow.holds Try.pinned (OpenSpec.ofChange fnDelayLoopMoreWrong)

/- THE SECOND FORM. 'bulk': how many values and letters a reading holds, each counted each time it is reached (what is shared counts as often as it is met; a slice's spare places count too). A statement '..UptoSaid' is the law's where the arguments, and the package variables that the reading takes, are together of bulk at most 1048576: NARROWER than '..Said'. Prove '..Said' where nothing that the law and all that it calls make is longer than what came in: it says more and counts as full. Else prove '..UptoSaid'. A law counts once. -/
mutual
def uptoBulk {H : Type} : DataW H → Nat
  | .lit (.string bytes) => bytes.length + 1
  | .lit _ => 1
  | .nil => 1
  | .ptr d => uptoBulk d + 1
  | .slice elems spare => uptoBulkAll elems + uptoBulkAll spare + 1
  | .agg parts => uptoBulkAll parts + 1
  | .iface _ d => uptoBulk d + 1
  | .map entries => uptoBulkEntries entries + 1
  | .held _ => 1
def uptoBulkAll {H : Type} : List (DataW H) → Nat
  | [] => 0
  | d :: r => uptoBulk d + uptoBulkAll r
def uptoBulkEntries {H : Type} : List (Lit × DataW H) → Nat
  | [] => 0
  | x :: r => uptoBulkEntry x + uptoBulkEntries r
def uptoBulkEntry {H : Type} : Lit × DataW H → Nat
  | (.string bytes, d) => bytes.length + uptoBulk d + 1
  | (_, d) => uptoBulk d + 1
 end
def uptoSmall : (H : Type) → List (DataW H) → Bool := fun _ ds => decide (uptoBulkAll ds ≤ 1048576)
def OpenSpec.upto (s : _root_.Go.ChangeSpec) : _root_.Go.OpenSpec := { _root_.Go.OpenSpec.ofChange s with cond := some uptoSmall }

/-- 'laws.FnExactDelayOf', WHERE WHAT IT READS IS OF BULK AT MOST 1048576: true; the input reads as it did. -/
def fnExactDelayOfUptoRow : OpenClaim := { program := "ytjjogggallapjaa", sum := "ad2dd651e8b1e247929922b8aaac6bdba4dfe02472329308e1db1f0d491424ff", func := "loop.example/radiointerferometer/laws.FnExactDelayOf", spec := "fnExactDelayOf", apart := false, narrowed := true }
def FnExactDelayOfUptoSaid : Prop := fnExactDelayOfUptoRow.holds Try.pinned (OpenSpec.upto fnExactDelayOfSpec)

/-- 'laws.FnExactDelayBase', WHERE WHAT IT READS IS OF BULK AT MOST 1048576: true; the input reads as it did. -/
def fnExactDelayBaseUptoRow : OpenClaim := { program := "ytjjogggallapjaa", sum := "ad2dd651e8b1e247929922b8aaac6bdba4dfe02472329308e1db1f0d491424ff", func := "loop.example/radiointerferometer/laws.FnExactDelayBase", spec := "fnExactDelayBase", apart := false, narrowed := true }
def FnExactDelayBaseUptoSaid : Prop := fnExactDelayBaseUptoRow.holds Try.pinned (OpenSpec.upto fnExactDelayBaseSpec)

/-- 'laws.FnDelay', WHERE WHAT IT READS IS OF BULK AT MOST 1048576: true; the input reads as it did. -/
def fnDelayUptoRow : OpenClaim := { program := "ytjjogggallapjaa", sum := "ad2dd651e8b1e247929922b8aaac6bdba4dfe02472329308e1db1f0d491424ff", func := "loop.example/radiointerferometer/laws.FnDelay", spec := "fnDelay", apart := false, narrowed := true }
def FnDelayUptoSaid : Prop := fnDelayUptoRow.holds Try.pinned (OpenSpec.upto fnDelaySpec)

/-- 'laws.FnDelayAdd', WHERE WHAT IT READS IS OF BULK AT MOST 1048576: true; the input reads as it did. -/
def fnDelayAddUptoRow : OpenClaim := { program := "ytjjogggallapjaa", sum := "ad2dd651e8b1e247929922b8aaac6bdba4dfe02472329308e1db1f0d491424ff", func := "loop.example/radiointerferometer/laws.FnDelayAdd", spec := "fnDelayAdd", apart := false, narrowed := true }
def FnDelayAddUptoSaid : Prop := fnDelayAddUptoRow.holds Try.pinned (OpenSpec.upto fnDelayAddSpec)

/-- 'laws.FnDelayTwice', WHERE WHAT IT READS IS OF BULK AT MOST 1048576: true; the input reads as it did. -/
def fnDelayTwiceUptoRow : OpenClaim := { program := "ytjjogggallapjaa", sum := "ad2dd651e8b1e247929922b8aaac6bdba4dfe02472329308e1db1f0d491424ff", func := "loop.example/radiointerferometer/laws.FnDelayTwice", spec := "fnDelayTwice", apart := false, narrowed := true }
def FnDelayTwiceUptoSaid : Prop := fnDelayTwiceUptoRow.holds Try.pinned (OpenSpec.upto fnDelayTwiceSpec)

/-- 'laws.FnDelayThree', WHERE WHAT IT READS IS OF BULK AT MOST 1048576: true; the input reads as it did. -/
def fnDelayThreeUptoRow : OpenClaim := { program := "ytjjogggallapjaa", sum := "ad2dd651e8b1e247929922b8aaac6bdba4dfe02472329308e1db1f0d491424ff", func := "loop.example/radiointerferometer/laws.FnDelayThree", spec := "fnDelayThree", apart := false, narrowed := true }
def FnDelayThreeUptoSaid : Prop := fnDelayThreeUptoRow.holds Try.pinned (OpenSpec.upto fnDelayThreeSpec)

/-- 'laws.FnExactDelayPhase', WHERE WHAT IT READS IS OF BULK AT MOST 1048576: true; the input reads as it did. -/
def fnExactDelayPhaseUptoRow : OpenClaim := { program := "ytjjogggallapjaa", sum := "ad2dd651e8b1e247929922b8aaac6bdba4dfe02472329308e1db1f0d491424ff", func := "loop.example/radiointerferometer/laws.FnExactDelayPhase", spec := "fnExactDelayPhase", apart := false, narrowed := true }
def FnExactDelayPhaseUptoSaid : Prop := fnExactDelayPhaseUptoRow.holds Try.pinned (OpenSpec.upto fnExactDelayPhaseSpec)

/-- 'laws.FnDelayBase', WHERE WHAT IT READS IS OF BULK AT MOST 1048576: true; the input reads as it did. -/
def fnDelayBaseUptoRow : OpenClaim := { program := "ytjjogggallapjaa", sum := "ad2dd651e8b1e247929922b8aaac6bdba4dfe02472329308e1db1f0d491424ff", func := "loop.example/radiointerferometer/laws.FnDelayBase", spec := "fnDelayBase", apart := false, narrowed := true }
def FnDelayBaseUptoSaid : Prop := fnDelayBaseUptoRow.holds Try.pinned (OpenSpec.upto fnDelayBaseSpec)

/-- 'laws.FnExactDelayLoop', WHERE WHAT IT READS IS OF BULK AT MOST 1048576: true; the input reads as it did. -/
def fnExactDelayLoopUptoRow : OpenClaim := { program := "ytjjogggallapjaa", sum := "ad2dd651e8b1e247929922b8aaac6bdba4dfe02472329308e1db1f0d491424ff", func := "loop.example/radiointerferometer/laws.FnExactDelayLoop", spec := "fnExactDelayLoop", apart := false, narrowed := true }
def FnExactDelayLoopUptoSaid : Prop := fnExactDelayLoopUptoRow.holds Try.pinned (OpenSpec.upto fnExactDelayLoopSpec)

/-- 'laws.FnDelayLoop', WHERE WHAT IT READS IS OF BULK AT MOST 1048576: true; the input reads as it did. -/
def fnDelayLoopUptoRow : OpenClaim := { program := "ytjjogggallapjaa", sum := "ad2dd651e8b1e247929922b8aaac6bdba4dfe02472329308e1db1f0d491424ff", func := "loop.example/radiointerferometer/laws.FnDelayLoop", spec := "fnDelayLoop", apart := false, narrowed := true }
def FnDelayLoopUptoSaid : Prop := fnDelayLoopUptoRow.holds Try.pinned (OpenSpec.upto fnDelayLoopSpec)

/-- 'laws.FnDelayLoopMore', WHERE WHAT IT READS IS OF BULK AT MOST 1048576: true; the input reads as it did. -/
def fnDelayLoopMoreUptoRow : OpenClaim := { program := "ytjjogggallapjaa", sum := "ad2dd651e8b1e247929922b8aaac6bdba4dfe02472329308e1db1f0d491424ff", func := "loop.example/radiointerferometer/laws.FnDelayLoopMore", spec := "fnDelayLoopMore", apart := false, narrowed := true }
def FnDelayLoopMoreUptoSaid : Prop := fnDelayLoopMoreUptoRow.holds Try.pinned (OpenSpec.upto fnDelayLoopMoreSpec)

end Rows
end Go.Proofs.Ytjjogggallapjaa
