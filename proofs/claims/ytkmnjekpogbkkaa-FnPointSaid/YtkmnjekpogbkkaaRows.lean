/-
  No cell of these rows narrows 'for every input' (looked for: loops, veiled, ifaces, maps, wideKeys, modest, calm, conditions, laid).
  DERIVED. THE GIVEN ROWS OF THIS SEAT. 7 by the template 'for every input the law returns true; each argument reads behind the call as it read before'; 0 by the template 'total and deterministic' (their statements: YtkmnjekpogbkkaaTotals.lean).
  GIVEN WITH THE SEED: the statements are not yours to turn. If you find one false, say at which input.
  Laid BY PROGRAM, IN A SANDBOX (cutbox-rows.mjs): the forced cells as the released guide's own fill.sh prints them over the translation 8412b931d11e26d7… (all of the seat's roots in one cut). By AI agents, Wed Nov 11 2026. No macro, syntax, notation, axiom, sorry.
-/
import Derived.Test.YtkmnjekpogbkkaaChecked
import GoSem.Claim
import GoSem.ClaimJoined
import GoSem.ClaimMapViews
import Derived.JoinedTies
import Derived.KernelRfl
namespace Go.Proofs.Ytkmnjekpogbkkaa
/- THE CELL 'sum', in the pinned program and in every row, IS THE sha256 OF THE DUMP (.gsa) THAT YtkmnjekpogbkkaaProg.lean LOADS. Nothing in Lean hashes anything: it is a label: what it is worth is what the hold of that sum in a sandbox is worth. -/
noncomputable def Try.pinned : Pinned := { name := "ytkmnjekpogbkkaa", sum := "8412b931d11e26d771d34cf5206db71f6dad8ee897a74c744975342c6d4bb557", checked := Try.checked }
namespace Rows
def none {H : Type} : Left H := { results := [], args := [] }

/-- 'laws.FnPointOpposite': WHATEVER THE INPUT: true; the input reads as it did. -/
def fnPointOppositeSpec : ChangeSpec := { name := "fnPointOpposite", fn := fun _ => fun
  | [d] => { results := [.lit (.bool true)], args := [d] }
  | _ => none }
def fnPointOppositeRow : OpenClaim := { program := "ytkmnjekpogbkkaa", sum := "8412b931d11e26d771d34cf5206db71f6dad8ee897a74c744975342c6d4bb557", func := "loop.example/radiointerferometer/laws.FnPointOpposite", spec := "fnPointOpposite", unfollowed := true, recurses := true, apart := false }
def FnPointOppositeSaid : Prop := fnPointOppositeRow.holds Try.pinned (OpenSpec.ofChange fnPointOppositeSpec)

/-- ITS FALSE NEIGHBOUR: 'it returns false'. Refute it at one input. -/
def fnPointOppositeWrong : ChangeSpec := { name := "fnPointOpposite", fn := fun _ => fun
  | [d] => { results := [.lit (.bool false)], args := [d] }
  | _ => none }
def FnPointOppositeWrongFalsely : Prop := fnPointOppositeRow.holds Try.pinned (OpenSpec.ofChange fnPointOppositeWrong)

/-- 'laws.FnPoint': WHATEVER THE INPUT: true; the input reads as it did. -/
def fnPointSpec : ChangeSpec := { name := "fnPoint", fn := fun _ => fun
  | [d1, d2] => { results := [.lit (.bool true)], args := [d1, d2] }
  | _ => none }
def fnPointRow : OpenClaim := { program := "ytkmnjekpogbkkaa", sum := "8412b931d11e26d771d34cf5206db71f6dad8ee897a74c744975342c6d4bb557", func := "loop.example/radiointerferometer/laws.FnPoint", spec := "fnPoint", unfollowed := true, recurses := true, apart := false }
def FnPointSaid : Prop := fnPointRow.holds Try.pinned (OpenSpec.ofChange fnPointSpec)

/-- ITS FALSE NEIGHBOUR: 'it returns false'. Refute it at one input. -/
def fnPointWrong : ChangeSpec := { name := "fnPoint", fn := fun _ => fun
  | [d1, d2] => { results := [.lit (.bool false)], args := [d1, d2] }
  | _ => none }
def FnPointWrongFalsely : Prop := fnPointRow.holds Try.pinned (OpenSpec.ofChange fnPointWrong)

/-- 'laws.FnPointAmp': WHATEVER THE INPUT: true; the input reads as it did. -/
def fnPointAmpSpec : ChangeSpec := { name := "fnPointAmp", fn := fun _ => fun
  | [d1, d2] => { results := [.lit (.bool true)], args := [d1, d2] }
  | _ => none }
def fnPointAmpRow : OpenClaim := { program := "ytkmnjekpogbkkaa", sum := "8412b931d11e26d771d34cf5206db71f6dad8ee897a74c744975342c6d4bb557", func := "loop.example/radiointerferometer/laws.FnPointAmp", spec := "fnPointAmp", unfollowed := true, recurses := true, apart := false }
def FnPointAmpSaid : Prop := fnPointAmpRow.holds Try.pinned (OpenSpec.ofChange fnPointAmpSpec)

/-- ITS FALSE NEIGHBOUR: 'it returns false'. Refute it at one input. -/
def fnPointAmpWrong : ChangeSpec := { name := "fnPointAmp", fn := fun _ => fun
  | [d1, d2] => { results := [.lit (.bool false)], args := [d1, d2] }
  | _ => none }
def FnPointAmpWrongFalsely : Prop := fnPointAmpRow.holds Try.pinned (OpenSpec.ofChange fnPointAmpWrong)

/-- 'laws.FnDelayPhase': WHATEVER THE INPUT: true; the input reads as it did. -/
def fnDelayPhaseSpec : ChangeSpec := { name := "fnDelayPhase", fn := fun _ => fun
  | [d] => { results := [.lit (.bool true)], args := [d] }
  | _ => none }
def fnDelayPhaseRow : OpenClaim := { program := "ytkmnjekpogbkkaa", sum := "8412b931d11e26d771d34cf5206db71f6dad8ee897a74c744975342c6d4bb557", func := "loop.example/radiointerferometer/laws.FnDelayPhase", spec := "fnDelayPhase", apart := false }
def FnDelayPhaseSaid : Prop := fnDelayPhaseRow.holds Try.pinned (OpenSpec.ofChange fnDelayPhaseSpec)

/-- ITS FALSE NEIGHBOUR: 'it returns false'. Refute it at one input. -/
def fnDelayPhaseWrong : ChangeSpec := { name := "fnDelayPhase", fn := fun _ => fun
  | [d] => { results := [.lit (.bool false)], args := [d] }
  | _ => none }
def FnDelayPhaseWrongFalsely : Prop := fnDelayPhaseRow.holds Try.pinned (OpenSpec.ofChange fnDelayPhaseWrong)

/-- 'laws.FnDelayPhaseThree': WHATEVER THE INPUT: true; the input reads as it did. -/
def fnDelayPhaseThreeSpec : ChangeSpec := { name := "fnDelayPhaseThree", fn := fun _ => fun
  | [d1, d2] => { results := [.lit (.bool true)], args := [d1, d2] }
  | _ => none }
def fnDelayPhaseThreeRow : OpenClaim := { program := "ytkmnjekpogbkkaa", sum := "8412b931d11e26d771d34cf5206db71f6dad8ee897a74c744975342c6d4bb557", func := "loop.example/radiointerferometer/laws.FnDelayPhaseThree", spec := "fnDelayPhaseThree", apart := false }
def FnDelayPhaseThreeSaid : Prop := fnDelayPhaseThreeRow.holds Try.pinned (OpenSpec.ofChange fnDelayPhaseThreeSpec)

/-- ITS FALSE NEIGHBOUR: 'it returns false'. Refute it at one input. -/
def fnDelayPhaseThreeWrong : ChangeSpec := { name := "fnDelayPhaseThree", fn := fun _ => fun
  | [d1, d2] => { results := [.lit (.bool false)], args := [d1, d2] }
  | _ => none }
def FnDelayPhaseThreeWrongFalsely : Prop := fnDelayPhaseThreeRow.holds Try.pinned (OpenSpec.ofChange fnDelayPhaseThreeWrong)

/-- 'laws.FnPointShift': WHATEVER THE INPUT: true; the input reads as it did. -/
def fnPointShiftSpec : ChangeSpec := { name := "fnPointShift", fn := fun _ => fun
  | [d] => { results := [.lit (.bool true)], args := [d] }
  | _ => none }
def fnPointShiftRow : OpenClaim := { program := "ytkmnjekpogbkkaa", sum := "8412b931d11e26d771d34cf5206db71f6dad8ee897a74c744975342c6d4bb557", func := "loop.example/radiointerferometer/laws.FnPointShift", spec := "fnPointShift", unfollowed := true, recurses := true, apart := false }
def FnPointShiftSaid : Prop := fnPointShiftRow.holds Try.pinned (OpenSpec.ofChange fnPointShiftSpec)

/-- ITS FALSE NEIGHBOUR: 'it returns false'. Refute it at one input. -/
def fnPointShiftWrong : ChangeSpec := { name := "fnPointShift", fn := fun _ => fun
  | [d] => { results := [.lit (.bool false)], args := [d] }
  | _ => none }
def FnPointShiftWrongFalsely : Prop := fnPointShiftRow.holds Try.pinned (OpenSpec.ofChange fnPointShiftWrong)

/-- 'laws.FnExactVisPoint': WHATEVER THE INPUT: true; the input reads as it did. -/
def fnExactVisPointSpec : ChangeSpec := { name := "fnExactVisPoint", fn := fun _ => fun
  | [d1, d2, d3] => { results := [.lit (.bool true)], args := [d1, d2, d3] }
  | _ => none }
def fnExactVisPointRow : OpenClaim := { program := "ytkmnjekpogbkkaa", sum := "8412b931d11e26d771d34cf5206db71f6dad8ee897a74c744975342c6d4bb557", func := "loop.example/radiointerferometer/laws.FnExactVisPoint", spec := "fnExactVisPoint", unfollowed := true, recurses := true, apart := false }
def FnExactVisPointSaid : Prop := fnExactVisPointRow.holds Try.pinned (OpenSpec.ofChange fnExactVisPointSpec)

/-- ITS FALSE NEIGHBOUR: 'it returns false'. Refute it at one input. -/
def fnExactVisPointWrong : ChangeSpec := { name := "fnExactVisPoint", fn := fun _ => fun
  | [d1, d2, d3] => { results := [.lit (.bool false)], args := [d1, d2, d3] }
  | _ => none }
def FnExactVisPointWrongFalsely : Prop := fnExactVisPointRow.holds Try.pinned (OpenSpec.ofChange fnExactVisPointWrong)

/- THE SECOND FORM. 'bulk': how many values and letters a reading holds, each counted each time it is reached (what is shared counts as often as it is met; a slice's spare places count too). A statement '..UptoSaid' is the law's where the arguments, and the package variables that the reading takes, are together of bulk at most 1048576: NARROWER than '..Said'. Prove '..Said' where nothing that the law and all that it calls make is longer than what came in: it says more and counts as full. Else prove '..UptoSaid'. A law counts once. -/
mutual
def uptoBulk {H : Type} : DataW H → Nat
  | .lit (.string bytes) => bytes.length + 1
  | .lit _ => 1
  | .nil => 1
  | .ptr d => uptoBulk d + 1
  | .slice elems spare => uptoBulkAll elems + uptoBulkAll spare + 1
  | .agg parts => uptoBulkAll parts + 1
  | .iface _ d => uptoBulk d + 1
  | .map entries => uptoBulkEntries entries + 1
  | .held _ => 1
def uptoBulkAll {H : Type} : List (DataW H) → Nat
  | [] => 0
  | d :: r => uptoBulk d + uptoBulkAll r
def uptoBulkEntries {H : Type} : List (Lit × DataW H) → Nat
  | [] => 0
  | x :: r => uptoBulkEntry x + uptoBulkEntries r
def uptoBulkEntry {H : Type} : Lit × DataW H → Nat
  | (.string bytes, d) => bytes.length + uptoBulk d + 1
  | (_, d) => uptoBulk d + 1
 end
def uptoSmall : (H : Type) → List (DataW H) → Bool := fun _ ds => decide (uptoBulkAll ds ≤ 1048576)
def OpenSpec.upto (s : _root_.Go.ChangeSpec) : _root_.Go.OpenSpec := { _root_.Go.OpenSpec.ofChange s with cond := some uptoSmall }

/-- 'laws.FnPointOpposite', WHERE WHAT IT READS IS OF BULK AT MOST 1048576: true; the input reads as it did. -/
def fnPointOppositeUptoRow : OpenClaim := { program := "ytkmnjekpogbkkaa", sum := "8412b931d11e26d771d34cf5206db71f6dad8ee897a74c744975342c6d4bb557", func := "loop.example/radiointerferometer/laws.FnPointOpposite", spec := "fnPointOpposite", unfollowed := true, recurses := true, apart := false, narrowed := true }
def FnPointOppositeUptoSaid : Prop := fnPointOppositeUptoRow.holds Try.pinned (OpenSpec.upto fnPointOppositeSpec)

/-- 'laws.FnPoint', WHERE WHAT IT READS IS OF BULK AT MOST 1048576: true; the input reads as it did. -/
def fnPointUptoRow : OpenClaim := { program := "ytkmnjekpogbkkaa", sum := "8412b931d11e26d771d34cf5206db71f6dad8ee897a74c744975342c6d4bb557", func := "loop.example/radiointerferometer/laws.FnPoint", spec := "fnPoint", unfollowed := true, recurses := true, apart := false, narrowed := true }
def FnPointUptoSaid : Prop := fnPointUptoRow.holds Try.pinned (OpenSpec.upto fnPointSpec)

/-- 'laws.FnPointAmp', WHERE WHAT IT READS IS OF BULK AT MOST 1048576: true; the input reads as it did. -/
def fnPointAmpUptoRow : OpenClaim := { program := "ytkmnjekpogbkkaa", sum := "8412b931d11e26d771d34cf5206db71f6dad8ee897a74c744975342c6d4bb557", func := "loop.example/radiointerferometer/laws.FnPointAmp", spec := "fnPointAmp", unfollowed := true, recurses := true, apart := false, narrowed := true }
def FnPointAmpUptoSaid : Prop := fnPointAmpUptoRow.holds Try.pinned (OpenSpec.upto fnPointAmpSpec)

/-- 'laws.FnDelayPhase', WHERE WHAT IT READS IS OF BULK AT MOST 1048576: true; the input reads as it did. -/
def fnDelayPhaseUptoRow : OpenClaim := { program := "ytkmnjekpogbkkaa", sum := "8412b931d11e26d771d34cf5206db71f6dad8ee897a74c744975342c6d4bb557", func := "loop.example/radiointerferometer/laws.FnDelayPhase", spec := "fnDelayPhase", apart := false, narrowed := true }
def FnDelayPhaseUptoSaid : Prop := fnDelayPhaseUptoRow.holds Try.pinned (OpenSpec.upto fnDelayPhaseSpec)

/-- 'laws.FnDelayPhaseThree', WHERE WHAT IT READS IS OF BULK AT MOST 1048576: true; the input reads as it did. -/
def fnDelayPhaseThreeUptoRow : OpenClaim := { program := "ytkmnjekpogbkkaa", sum := "8412b931d11e26d771d34cf5206db71f6dad8ee897a74c744975342c6d4bb557", func := "loop.example/radiointerferometer/laws.FnDelayPhaseThree", spec := "fnDelayPhaseThree", apart := false, narrowed := true }
def FnDelayPhaseThreeUptoSaid : Prop := fnDelayPhaseThreeUptoRow.holds Try.pinned (OpenSpec.upto fnDelayPhaseThreeSpec)

/-- 'laws.FnPointShift', WHERE WHAT IT READS IS OF BULK AT MOST 1048576: true; the input reads as it did. -/
def fnPointShiftUptoRow : OpenClaim := { program := "ytkmnjekpogbkkaa", sum := "8412b931d11e26d771d34cf5206db71f6dad8ee897a74c744975342c6d4bb557", func := "loop.example/radiointerferometer/laws.FnPointShift", spec := "fnPointShift", unfollowed := true, recurses := true, apart := false, narrowed := true }
def FnPointShiftUptoSaid : Prop := fnPointShiftUptoRow.holds Try.pinned (OpenSpec.upto fnPointShiftSpec)

/-- 'laws.FnExactVisPoint', WHERE WHAT IT READS IS OF BULK AT MOST 1048576: true; the input reads as it did. -/
def fnExactVisPointUptoRow : OpenClaim := { program := "ytkmnjekpogbkkaa", sum := "8412b931d11e26d771d34cf5206db71f6dad8ee897a74c744975342c6d4bb557", func := "loop.example/radiointerferometer/laws.FnExactVisPoint", spec := "fnExactVisPoint", unfollowed := true, recurses := true, apart := false, narrowed := true }
def FnExactVisPointUptoSaid : Prop := fnExactVisPointUptoRow.holds Try.pinned (OpenSpec.upto fnExactVisPointSpec)

end Rows
end Go.Proofs.Ytkmnjekpogbkkaa
