/-
  No cell of these rows narrows 'for every input' (looked for: loops, veiled, ifaces, maps, wideKeys, modest, calm, conditions, laid).
  DERIVED. THE GIVEN ROWS OF THIS SEAT. 11 by the template 'for every input the law returns true; each argument reads behind the call as it read before'; 0 by the template 'total and deterministic' (their statements: YtgepjbfdjnhcoaaTotals.lean).
  GIVEN WITH THE SEED: the statements are not yours to turn. If you find one false, say at which input.
  Laid BY PROGRAM, IN A SANDBOX (cutbox-rows.mjs): the forced cells as the released guide's own fill.sh prints them over the translation a29706c36b268c64… (all of the seat's roots in one cut). By AI agents, Wed Nov 11 2026. No macro, syntax, notation, axiom, sorry.
-/
import Derived.Test.YtgepjbfdjnhcoaaChecked
import GoSem.Claim
import GoSem.ClaimJoined
import GoSem.ClaimMapViews
import Derived.JoinedTies
import Derived.KernelRfl
namespace Go.Proofs.Ytgepjbfdjnhcoaa
/- THE CELL 'sum', in the pinned program and in every row, IS THE sha256 OF THE DUMP (.gsa) THAT YtgepjbfdjnhcoaaProg.lean LOADS. Nothing in Lean hashes anything: it is a label: what it is worth is what the hold of that sum in a sandbox is worth. -/
noncomputable def Try.pinned : Pinned := { name := "ytgepjbfdjnhcoaa", sum := "a29706c36b268c64409cd904f295c1d3f0d0abc3921b27979cfd56915a9ecafd", checked := Try.checked }
namespace Rows
def none {H : Type} : Left H := { results := [], args := [] }

/-- 'laws.FnExactSampleLevel': WHATEVER THE INPUT: true; the input reads as it did. -/
def fnExactSampleLevelSpec : ChangeSpec := { name := "fnExactSampleLevel", fn := fun _ => fun
  | [d1, d2] => { results := [.lit (.bool true)], args := [d1, d2] }
  | _ => none }
def fnExactSampleLevelRow : OpenClaim := { program := "ytgepjbfdjnhcoaa", sum := "a29706c36b268c64409cd904f295c1d3f0d0abc3921b27979cfd56915a9ecafd", func := "loop.example/radiointerferometer/laws.FnExactSampleLevel", spec := "fnExactSampleLevel", apart := false }
def FnExactSampleLevelSaid : Prop := fnExactSampleLevelRow.holds Try.pinned (OpenSpec.ofChange fnExactSampleLevelSpec)

/-- ITS FALSE NEIGHBOUR: 'it returns false'. Refute it at one input. -/
def fnExactSampleLevelWrong : ChangeSpec := { name := "fnExactSampleLevel", fn := fun _ => fun
  | [d1, d2] => { results := [.lit (.bool false)], args := [d1, d2] }
  | _ => none }
def FnExactSampleLevelWrongFalsely : Prop := fnExactSampleLevelRow.holds Try.pinned (OpenSpec.ofChange fnExactSampleLevelWrong)

/-- 'laws.FnExactSamplesValid': WHATEVER THE INPUT: true; the input reads as it did. -/
def fnExactSamplesValidSpec : ChangeSpec := { name := "fnExactSamplesValid", fn := fun _ => fun
  | [d] => { results := [.lit (.bool true)], args := [d] }
  | _ => none }
def fnExactSamplesValidRow : OpenClaim := { program := "ytgepjbfdjnhcoaa", sum := "a29706c36b268c64409cd904f295c1d3f0d0abc3921b27979cfd56915a9ecafd", func := "loop.example/radiointerferometer/laws.FnExactSamplesValid", spec := "fnExactSamplesValid", apart := false }
def FnExactSamplesValidSaid : Prop := fnExactSamplesValidRow.holds Try.pinned (OpenSpec.ofChange fnExactSamplesValidSpec)

/-- ITS FALSE NEIGHBOUR: 'it returns false'. Refute it at one input. -/
def fnExactSamplesValidWrong : ChangeSpec := { name := "fnExactSamplesValid", fn := fun _ => fun
  | [d] => { results := [.lit (.bool false)], args := [d] }
  | _ => none }
def FnExactSamplesValidWrongFalsely : Prop := fnExactSamplesValidRow.holds Try.pinned (OpenSpec.ofChange fnExactSamplesValidWrong)

/-- 'laws.FnLevel': WHATEVER THE INPUT: true; the input reads as it did. -/
def fnLevelSpec : ChangeSpec := { name := "fnLevel", fn := fun _ => fun
  | [d] => { results := [.lit (.bool true)], args := [d] }
  | _ => none }
def fnLevelRow : OpenClaim := { program := "ytgepjbfdjnhcoaa", sum := "a29706c36b268c64409cd904f295c1d3f0d0abc3921b27979cfd56915a9ecafd", func := "loop.example/radiointerferometer/laws.FnLevel", spec := "fnLevel", apart := false }
def FnLevelSaid : Prop := fnLevelRow.holds Try.pinned (OpenSpec.ofChange fnLevelSpec)

/-- ITS FALSE NEIGHBOUR: 'it returns false'. Refute it at one input. -/
def fnLevelWrong : ChangeSpec := { name := "fnLevel", fn := fun _ => fun
  | [d] => { results := [.lit (.bool false)], args := [d] }
  | _ => none }
def FnLevelWrongFalsely : Prop := fnLevelRow.holds Try.pinned (OpenSpec.ofChange fnLevelWrong)

/-- 'laws.FnLevelOpposite': WHATEVER THE INPUT: true; the input reads as it did. -/
def fnLevelOppositeSpec : ChangeSpec := { name := "fnLevelOpposite", fn := fun _ => fun
  | [d] => { results := [.lit (.bool true)], args := [d] }
  | _ => none }
def fnLevelOppositeRow : OpenClaim := { program := "ytgepjbfdjnhcoaa", sum := "a29706c36b268c64409cd904f295c1d3f0d0abc3921b27979cfd56915a9ecafd", func := "loop.example/radiointerferometer/laws.FnLevelOpposite", spec := "fnLevelOpposite", apart := false }
def FnLevelOppositeSaid : Prop := fnLevelOppositeRow.holds Try.pinned (OpenSpec.ofChange fnLevelOppositeSpec)

/-- ITS FALSE NEIGHBOUR: 'it returns false'. Refute it at one input. -/
def fnLevelOppositeWrong : ChangeSpec := { name := "fnLevelOpposite", fn := fun _ => fun
  | [d] => { results := [.lit (.bool false)], args := [d] }
  | _ => none }
def FnLevelOppositeWrongFalsely : Prop := fnLevelOppositeRow.holds Try.pinned (OpenSpec.ofChange fnLevelOppositeWrong)

/-- 'laws.FnLevelRises': WHATEVER THE INPUT: true; the input reads as it did. -/
def fnLevelRisesSpec : ChangeSpec := { name := "fnLevelRises", fn := fun _ => fun
  | [d] => { results := [.lit (.bool true)], args := [d] }
  | _ => none }
def fnLevelRisesRow : OpenClaim := { program := "ytgepjbfdjnhcoaa", sum := "a29706c36b268c64409cd904f295c1d3f0d0abc3921b27979cfd56915a9ecafd", func := "loop.example/radiointerferometer/laws.FnLevelRises", spec := "fnLevelRises", apart := false }
def FnLevelRisesSaid : Prop := fnLevelRisesRow.holds Try.pinned (OpenSpec.ofChange fnLevelRisesSpec)

/-- ITS FALSE NEIGHBOUR: 'it returns false'. Refute it at one input. -/
def fnLevelRisesWrong : ChangeSpec := { name := "fnLevelRises", fn := fun _ => fun
  | [d] => { results := [.lit (.bool false)], args := [d] }
  | _ => none }
def FnLevelRisesWrongFalsely : Prop := fnLevelRisesRow.holds Try.pinned (OpenSpec.ofChange fnLevelRisesWrong)

/-- 'laws.FnSamples': WHATEVER THE INPUT: true; the input reads as it did. -/
def fnSamplesSpec : ChangeSpec := { name := "fnSamples", fn := fun _ => fun
  | [d1, d2] => { results := [.lit (.bool true)], args := [d1, d2] }
  | _ => none }
def fnSamplesRow : OpenClaim := { program := "ytgepjbfdjnhcoaa", sum := "a29706c36b268c64409cd904f295c1d3f0d0abc3921b27979cfd56915a9ecafd", func := "loop.example/radiointerferometer/laws.FnSamples", spec := "fnSamples", apart := false }
def FnSamplesSaid : Prop := fnSamplesRow.holds Try.pinned (OpenSpec.ofChange fnSamplesSpec)

/-- ITS FALSE NEIGHBOUR: 'it returns false'. Refute it at one input. -/
def fnSamplesWrong : ChangeSpec := { name := "fnSamples", fn := fun _ => fun
  | [d1, d2] => { results := [.lit (.bool false)], args := [d1, d2] }
  | _ => none }
def FnSamplesWrongFalsely : Prop := fnSamplesRow.holds Try.pinned (OpenSpec.ofChange fnSamplesWrong)

/-- 'laws.FnExactSamplesShift': WHATEVER THE INPUT: true; the input reads as it did. -/
def fnExactSamplesShiftSpec : ChangeSpec := { name := "fnExactSamplesShift", fn := fun _ => fun
  | [d1, d2] => { results := [.lit (.bool true)], args := [d1, d2] }
  | _ => none }
def fnExactSamplesShiftRow : OpenClaim := { program := "ytgepjbfdjnhcoaa", sum := "a29706c36b268c64409cd904f295c1d3f0d0abc3921b27979cfd56915a9ecafd", func := "loop.example/radiointerferometer/laws.FnExactSamplesShift", spec := "fnExactSamplesShift", apart := false }
def FnExactSamplesShiftSaid : Prop := fnExactSamplesShiftRow.holds Try.pinned (OpenSpec.ofChange fnExactSamplesShiftSpec)

/-- ITS FALSE NEIGHBOUR: 'it returns false'. Refute it at one input. -/
def fnExactSamplesShiftWrong : ChangeSpec := { name := "fnExactSamplesShift", fn := fun _ => fun
  | [d1, d2] => { results := [.lit (.bool false)], args := [d1, d2] }
  | _ => none }
def FnExactSamplesShiftWrongFalsely : Prop := fnExactSamplesShiftRow.holds Try.pinned (OpenSpec.ofChange fnExactSamplesShiftWrong)

/-- 'laws.FnExactSamplesLevel': WHATEVER THE INPUT: true; the input reads as it did. -/
def fnExactSamplesLevelSpec : ChangeSpec := { name := "fnExactSamplesLevel", fn := fun _ => fun
  | [d1, d2] => { results := [.lit (.bool true)], args := [d1, d2] }
  | _ => none }
def fnExactSamplesLevelRow : OpenClaim := { program := "ytgepjbfdjnhcoaa", sum := "a29706c36b268c64409cd904f295c1d3f0d0abc3921b27979cfd56915a9ecafd", func := "loop.example/radiointerferometer/laws.FnExactSamplesLevel", spec := "fnExactSamplesLevel", apart := false }
def FnExactSamplesLevelSaid : Prop := fnExactSamplesLevelRow.holds Try.pinned (OpenSpec.ofChange fnExactSamplesLevelSpec)

/-- ITS FALSE NEIGHBOUR: 'it returns false'. Refute it at one input. -/
def fnExactSamplesLevelWrong : ChangeSpec := { name := "fnExactSamplesLevel", fn := fun _ => fun
  | [d1, d2] => { results := [.lit (.bool false)], args := [d1, d2] }
  | _ => none }
def FnExactSamplesLevelWrongFalsely : Prop := fnExactSamplesLevelRow.holds Try.pinned (OpenSpec.ofChange fnExactSamplesLevelWrong)

/-- 'laws.FnShiftSamples': WHATEVER THE INPUT: true; the input reads as it did. -/
def fnShiftSamplesSpec : ChangeSpec := { name := "fnShiftSamples", fn := fun _ => fun
  | [d] => { results := [.lit (.bool true)], args := [d] }
  | _ => none }
def fnShiftSamplesRow : OpenClaim := { program := "ytgepjbfdjnhcoaa", sum := "a29706c36b268c64409cd904f295c1d3f0d0abc3921b27979cfd56915a9ecafd", func := "loop.example/radiointerferometer/laws.FnShiftSamples", spec := "fnShiftSamples", apart := false }
def FnShiftSamplesSaid : Prop := fnShiftSamplesRow.holds Try.pinned (OpenSpec.ofChange fnShiftSamplesSpec)

/-- ITS FALSE NEIGHBOUR: 'it returns false'. Refute it at one input. -/
def fnShiftSamplesWrong : ChangeSpec := { name := "fnShiftSamples", fn := fun _ => fun
  | [d] => { results := [.lit (.bool false)], args := [d] }
  | _ => none }
def FnShiftSamplesWrongFalsely : Prop := fnShiftSamplesRow.holds Try.pinned (OpenSpec.ofChange fnShiftSamplesWrong)

/-- 'laws.FnLevels': WHATEVER THE INPUT: true; the input reads as it did. -/
def fnLevelsSpec : ChangeSpec := { name := "fnLevels", fn := fun _ => fun
  | [d] => { results := [.lit (.bool true)], args := [d] }
  | _ => none }
def fnLevelsRow : OpenClaim := { program := "ytgepjbfdjnhcoaa", sum := "a29706c36b268c64409cd904f295c1d3f0d0abc3921b27979cfd56915a9ecafd", func := "loop.example/radiointerferometer/laws.FnLevels", spec := "fnLevels", apart := false }
def FnLevelsSaid : Prop := fnLevelsRow.holds Try.pinned (OpenSpec.ofChange fnLevelsSpec)

/-- ITS FALSE NEIGHBOUR: 'it returns false'. Refute it at one input. -/
def fnLevelsWrong : ChangeSpec := { name := "fnLevels", fn := fun _ => fun
  | [d] => { results := [.lit (.bool false)], args := [d] }
  | _ => none }
def FnLevelsWrongFalsely : Prop := fnLevelsRow.holds Try.pinned (OpenSpec.ofChange fnLevelsWrong)

/-- 'laws.FnShiftLevel': WHATEVER THE INPUT: true; the input reads as it did. -/
def fnShiftLevelSpec : ChangeSpec := { name := "fnShiftLevel", fn := fun _ => fun
  | [d1, d2] => { results := [.lit (.bool true)], args := [d1, d2] }
  | _ => none }
def fnShiftLevelRow : OpenClaim := { program := "ytgepjbfdjnhcoaa", sum := "a29706c36b268c64409cd904f295c1d3f0d0abc3921b27979cfd56915a9ecafd", func := "loop.example/radiointerferometer/laws.FnShiftLevel", spec := "fnShiftLevel", apart := false }
def FnShiftLevelSaid : Prop := fnShiftLevelRow.holds Try.pinned (OpenSpec.ofChange fnShiftLevelSpec)

/-- ITS FALSE NEIGHBOUR: 'it returns false'. Refute it at one input. -/
def fnShiftLevelWrong : ChangeSpec := { name := "fnShiftLevel", fn := fun _ => fun
  | [d1, d2] => { results := [.lit (.bool false)], args := [d1, d2] }
  | _ => none }
def FnShiftLevelWrongFalsely : Prop := fnShiftLevelRow.holds Try.pinned (OpenSpec.ofChange fnShiftLevelWrong)

/- THE SECOND FORM. 'bulk': how many values and letters a reading holds, each counted each time it is reached (what is shared counts as often as it is met; a slice's spare places count too). A statement '..UptoSaid' is the law's where the arguments, and the package variables that the reading takes, are together of bulk at most 1048576: NARROWER than '..Said'. Prove '..Said' where nothing that the law and all that it calls make is longer than what came in: it says more and counts as full. Else prove '..UptoSaid'. A law counts once. -/
mutual
def uptoBulk {H : Type} : DataW H → Nat
  | .lit (.string bytes) => bytes.length + 1
  | .lit _ => 1
  | .nil => 1
  | .ptr d => uptoBulk d + 1
  | .slice elems spare => uptoBulkAll elems + uptoBulkAll spare + 1
  | .agg parts => uptoBulkAll parts + 1
  | .iface _ d => uptoBulk d + 1
  | .map entries => uptoBulkEntries entries + 1
  | .held _ => 1
def uptoBulkAll {H : Type} : List (DataW H) → Nat
  | [] => 0
  | d :: r => uptoBulk d + uptoBulkAll r
def uptoBulkEntries {H : Type} : List (Lit × DataW H) → Nat
  | [] => 0
  | x :: r => uptoBulkEntry x + uptoBulkEntries r
def uptoBulkEntry {H : Type} : Lit × DataW H → Nat
  | (.string bytes, d) => bytes.length + uptoBulk d + 1
  | (_, d) => uptoBulk d + 1
 end
def uptoSmall : (H : Type) → List (DataW H) → Bool := fun _ ds => decide (uptoBulkAll ds ≤ 1048576)
def OpenSpec.upto (s : _root_.Go.ChangeSpec) : _root_.Go.OpenSpec := { _root_.Go.OpenSpec.ofChange s with cond := some uptoSmall }

/-- 'laws.FnExactSampleLevel', WHERE WHAT IT READS IS OF BULK AT MOST 1048576: true; the input reads as it did. -/
def fnExactSampleLevelUptoRow : OpenClaim := { program := "ytgepjbfdjnhcoaa", sum := "a29706c36b268c64409cd904f295c1d3f0d0abc3921b27979cfd56915a9ecafd", func := "loop.example/radiointerferometer/laws.FnExactSampleLevel", spec := "fnExactSampleLevel", apart := false, narrowed := true }
def FnExactSampleLevelUptoSaid : Prop := fnExactSampleLevelUptoRow.holds Try.pinned (OpenSpec.upto fnExactSampleLevelSpec)

/-- 'laws.FnExactSamplesValid', WHERE WHAT IT READS IS OF BULK AT MOST 1048576: true; the input reads as it did. -/
def fnExactSamplesValidUptoRow : OpenClaim := { program := "ytgepjbfdjnhcoaa", sum := "a29706c36b268c64409cd904f295c1d3f0d0abc3921b27979cfd56915a9ecafd", func := "loop.example/radiointerferometer/laws.FnExactSamplesValid", spec := "fnExactSamplesValid", apart := false, narrowed := true }
def FnExactSamplesValidUptoSaid : Prop := fnExactSamplesValidUptoRow.holds Try.pinned (OpenSpec.upto fnExactSamplesValidSpec)

/-- 'laws.FnLevel', WHERE WHAT IT READS IS OF BULK AT MOST 1048576: true; the input reads as it did. -/
def fnLevelUptoRow : OpenClaim := { program := "ytgepjbfdjnhcoaa", sum := "a29706c36b268c64409cd904f295c1d3f0d0abc3921b27979cfd56915a9ecafd", func := "loop.example/radiointerferometer/laws.FnLevel", spec := "fnLevel", apart := false, narrowed := true }
def FnLevelUptoSaid : Prop := fnLevelUptoRow.holds Try.pinned (OpenSpec.upto fnLevelSpec)

/-- 'laws.FnLevelOpposite', WHERE WHAT IT READS IS OF BULK AT MOST 1048576: true; the input reads as it did. -/
def fnLevelOppositeUptoRow : OpenClaim := { program := "ytgepjbfdjnhcoaa", sum := "a29706c36b268c64409cd904f295c1d3f0d0abc3921b27979cfd56915a9ecafd", func := "loop.example/radiointerferometer/laws.FnLevelOpposite", spec := "fnLevelOpposite", apart := false, narrowed := true }
def FnLevelOppositeUptoSaid : Prop := fnLevelOppositeUptoRow.holds Try.pinned (OpenSpec.upto fnLevelOppositeSpec)

/-- 'laws.FnLevelRises', WHERE WHAT IT READS IS OF BULK AT MOST 1048576: true; the input reads as it did. -/
def fnLevelRisesUptoRow : OpenClaim := { program := "ytgepjbfdjnhcoaa", sum := "a29706c36b268c64409cd904f295c1d3f0d0abc3921b27979cfd56915a9ecafd", func := "loop.example/radiointerferometer/laws.FnLevelRises", spec := "fnLevelRises", apart := false, narrowed := true }
def FnLevelRisesUptoSaid : Prop := fnLevelRisesUptoRow.holds Try.pinned (OpenSpec.upto fnLevelRisesSpec)

/-- 'laws.FnSamples', WHERE WHAT IT READS IS OF BULK AT MOST 1048576: true; the input reads as it did. -/
def fnSamplesUptoRow : OpenClaim := { program := "ytgepjbfdjnhcoaa", sum := "a29706c36b268c64409cd904f295c1d3f0d0abc3921b27979cfd56915a9ecafd", func := "loop.example/radiointerferometer/laws.FnSamples", spec := "fnSamples", apart := false, narrowed := true }
def FnSamplesUptoSaid : Prop := fnSamplesUptoRow.holds Try.pinned (OpenSpec.upto fnSamplesSpec)

/-- 'laws.FnExactSamplesShift', WHERE WHAT IT READS IS OF BULK AT MOST 1048576: true; the input reads as it did. -/
def fnExactSamplesShiftUptoRow : OpenClaim := { program := "ytgepjbfdjnhcoaa", sum := "a29706c36b268c64409cd904f295c1d3f0d0abc3921b27979cfd56915a9ecafd", func := "loop.example/radiointerferometer/laws.FnExactSamplesShift", spec := "fnExactSamplesShift", apart := false, narrowed := true }
def FnExactSamplesShiftUptoSaid : Prop := fnExactSamplesShiftUptoRow.holds Try.pinned (OpenSpec.upto fnExactSamplesShiftSpec)

/-- 'laws.FnExactSamplesLevel', WHERE WHAT IT READS IS OF BULK AT MOST 1048576: true; the input reads as it did. -/
def fnExactSamplesLevelUptoRow : OpenClaim := { program := "ytgepjbfdjnhcoaa", sum := "a29706c36b268c64409cd904f295c1d3f0d0abc3921b27979cfd56915a9ecafd", func := "loop.example/radiointerferometer/laws.FnExactSamplesLevel", spec := "fnExactSamplesLevel", apart := false, narrowed := true }
def FnExactSamplesLevelUptoSaid : Prop := fnExactSamplesLevelUptoRow.holds Try.pinned (OpenSpec.upto fnExactSamplesLevelSpec)

/-- 'laws.FnShiftSamples', WHERE WHAT IT READS IS OF BULK AT MOST 1048576: true; the input reads as it did. -/
def fnShiftSamplesUptoRow : OpenClaim := { program := "ytgepjbfdjnhcoaa", sum := "a29706c36b268c64409cd904f295c1d3f0d0abc3921b27979cfd56915a9ecafd", func := "loop.example/radiointerferometer/laws.FnShiftSamples", spec := "fnShiftSamples", apart := false, narrowed := true }
def FnShiftSamplesUptoSaid : Prop := fnShiftSamplesUptoRow.holds Try.pinned (OpenSpec.upto fnShiftSamplesSpec)

/-- 'laws.FnLevels', WHERE WHAT IT READS IS OF BULK AT MOST 1048576: true; the input reads as it did. -/
def fnLevelsUptoRow : OpenClaim := { program := "ytgepjbfdjnhcoaa", sum := "a29706c36b268c64409cd904f295c1d3f0d0abc3921b27979cfd56915a9ecafd", func := "loop.example/radiointerferometer/laws.FnLevels", spec := "fnLevels", apart := false, narrowed := true }
def FnLevelsUptoSaid : Prop := fnLevelsUptoRow.holds Try.pinned (OpenSpec.upto fnLevelsSpec)

/-- 'laws.FnShiftLevel', WHERE WHAT IT READS IS OF BULK AT MOST 1048576: true; the input reads as it did. -/
def fnShiftLevelUptoRow : OpenClaim := { program := "ytgepjbfdjnhcoaa", sum := "a29706c36b268c64409cd904f295c1d3f0d0abc3921b27979cfd56915a9ecafd", func := "loop.example/radiointerferometer/laws.FnShiftLevel", spec := "fnShiftLevel", apart := false, narrowed := true }
def FnShiftLevelUptoSaid : Prop := fnShiftLevelUptoRow.holds Try.pinned (OpenSpec.upto fnShiftLevelSpec)

end Rows
end Go.Proofs.Ytgepjbfdjnhcoaa
