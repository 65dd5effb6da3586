/-
  No cell of these rows narrows 'for every input' (looked for: loops, veiled, ifaces, maps, wideKeys, modest, calm, conditions, laid).
  DERIVED. THE GIVEN ROWS OF THIS SEAT. 11 by the template 'for every input the law returns true; each argument reads behind the call as it read before'; 0 by the template 'total and deterministic' (their statements: YtiehommofdjgcaaTotals.lean).
  GIVEN WITH THE SEED: the statements are not yours to turn. If you find one false, say at which input.
  Laid BY PROGRAM, IN A SANDBOX (cutbox-rows.mjs): the forced cells as the released guide's own fill.sh prints them over the translation ed002296086b824b… (all of the seat's roots in one cut). By AI agents, Wed Nov 11 2026. No macro, syntax, notation, axiom, sorry.
-/
import Derived.Test.YtiehommofdjgcaaChecked
import GoSem.Claim
import GoSem.ClaimJoined
import GoSem.ClaimMapViews
import Derived.JoinedTies
import Derived.KernelRfl
namespace Go.Proofs.Ytiehommofdjgcaa
/- THE CELL 'sum', in the pinned program and in every row, IS THE sha256 OF THE DUMP (.gsa) THAT YtiehommofdjgcaaProg.lean LOADS. Nothing in Lean hashes anything: it is a label: what it is worth is what the hold of that sum in a sandbox is worth. -/
noncomputable def Try.pinned : Pinned := { name := "ytiehommofdjgcaa", sum := "ed002296086b824ba16b5418f0bfd0b578c2445628ce3d1d697c48f1bd286405", checked := Try.checked }
namespace Rows
def none {H : Type} : Left H := { results := [], args := [] }

/-- 'laws.FnExactCorrelate': WHATEVER THE INPUT: true; the input reads as it did. -/
def fnExactCorrelateSpec : ChangeSpec := { name := "fnExactCorrelate", fn := fun _ => fun
  | [d1, d2, d3] => { results := [.lit (.bool true)], args := [d1, d2, d3] }
  | _ => none }
def fnExactCorrelateRow : OpenClaim := { program := "ytiehommofdjgcaa", sum := "ed002296086b824ba16b5418f0bfd0b578c2445628ce3d1d697c48f1bd286405", func := "loop.example/radiointerferometer/laws.FnExactCorrelate", spec := "fnExactCorrelate", apart := false }
def FnExactCorrelateSaid : Prop := fnExactCorrelateRow.holds Try.pinned (OpenSpec.ofChange fnExactCorrelateSpec)

/-- ITS FALSE NEIGHBOUR: 'it returns false'. Refute it at one input. -/
def fnExactCorrelateWrong : ChangeSpec := { name := "fnExactCorrelate", fn := fun _ => fun
  | [d1, d2, d3] => { results := [.lit (.bool false)], args := [d1, d2, d3] }
  | _ => none }
def FnExactCorrelateWrongFalsely : Prop := fnExactCorrelateRow.holds Try.pinned (OpenSpec.ofChange fnExactCorrelateWrong)

/-- 'laws.FnExactCorrelateBest': WHATEVER THE INPUT: true; the input reads as it did. -/
def fnExactCorrelateBestSpec : ChangeSpec := { name := "fnExactCorrelateBest", fn := fun _ => fun
  | [d1, d2] => { results := [.lit (.bool true)], args := [d1, d2] }
  | _ => none }
def fnExactCorrelateBestRow : OpenClaim := { program := "ytiehommofdjgcaa", sum := "ed002296086b824ba16b5418f0bfd0b578c2445628ce3d1d697c48f1bd286405", func := "loop.example/radiointerferometer/laws.FnExactCorrelateBest", spec := "fnExactCorrelateBest", apart := false }
def FnExactCorrelateBestSaid : Prop := fnExactCorrelateBestRow.holds Try.pinned (OpenSpec.ofChange fnExactCorrelateBestSpec)

/-- ITS FALSE NEIGHBOUR: 'it returns false'. Refute it at one input. -/
def fnExactCorrelateBestWrong : ChangeSpec := { name := "fnExactCorrelateBest", fn := fun _ => fun
  | [d1, d2] => { results := [.lit (.bool false)], args := [d1, d2] }
  | _ => none }
def FnExactCorrelateBestWrongFalsely : Prop := fnExactCorrelateBestRow.holds Try.pinned (OpenSpec.ofChange fnExactCorrelateBestWrong)

/-- 'laws.FnCorrelateAdd': WHATEVER THE INPUT: true; the input reads as it did. -/
def fnCorrelateAddSpec : ChangeSpec := { name := "fnCorrelateAdd", fn := fun _ => fun
  | [d] => { results := [.lit (.bool true)], args := [d] }
  | _ => none }
def fnCorrelateAddRow : OpenClaim := { program := "ytiehommofdjgcaa", sum := "ed002296086b824ba16b5418f0bfd0b578c2445628ce3d1d697c48f1bd286405", func := "loop.example/radiointerferometer/laws.FnCorrelateAdd", spec := "fnCorrelateAdd", apart := false }
def FnCorrelateAddSaid : Prop := fnCorrelateAddRow.holds Try.pinned (OpenSpec.ofChange fnCorrelateAddSpec)

/-- ITS FALSE NEIGHBOUR: 'it returns false'. Refute it at one input. -/
def fnCorrelateAddWrong : ChangeSpec := { name := "fnCorrelateAdd", fn := fun _ => fun
  | [d] => { results := [.lit (.bool false)], args := [d] }
  | _ => none }
def FnCorrelateAddWrongFalsely : Prop := fnCorrelateAddRow.holds Try.pinned (OpenSpec.ofChange fnCorrelateAddWrong)

/-- 'laws.FnCorrelateBound': WHATEVER THE INPUT: true; the input reads as it did. -/
def fnCorrelateBoundSpec : ChangeSpec := { name := "fnCorrelateBound", fn := fun _ => fun
  | [d] => { results := [.lit (.bool true)], args := [d] }
  | _ => none }
def fnCorrelateBoundRow : OpenClaim := { program := "ytiehommofdjgcaa", sum := "ed002296086b824ba16b5418f0bfd0b578c2445628ce3d1d697c48f1bd286405", func := "loop.example/radiointerferometer/laws.FnCorrelateBound", spec := "fnCorrelateBound", apart := false }
def FnCorrelateBoundSaid : Prop := fnCorrelateBoundRow.holds Try.pinned (OpenSpec.ofChange fnCorrelateBoundSpec)

/-- ITS FALSE NEIGHBOUR: 'it returns false'. Refute it at one input. -/
def fnCorrelateBoundWrong : ChangeSpec := { name := "fnCorrelateBound", fn := fun _ => fun
  | [d] => { results := [.lit (.bool false)], args := [d] }
  | _ => none }
def FnCorrelateBoundWrongFalsely : Prop := fnCorrelateBoundRow.holds Try.pinned (OpenSpec.ofChange fnCorrelateBoundWrong)

/-- 'laws.FnCorrelateSelf': WHATEVER THE INPUT: true; the input reads as it did. -/
def fnCorrelateSelfSpec : ChangeSpec := { name := "fnCorrelateSelf", fn := fun _ => fun
  | [d] => { results := [.lit (.bool true)], args := [d] }
  | _ => none }
def fnCorrelateSelfRow : OpenClaim := { program := "ytiehommofdjgcaa", sum := "ed002296086b824ba16b5418f0bfd0b578c2445628ce3d1d697c48f1bd286405", func := "loop.example/radiointerferometer/laws.FnCorrelateSelf", spec := "fnCorrelateSelf", apart := false }
def FnCorrelateSelfSaid : Prop := fnCorrelateSelfRow.holds Try.pinned (OpenSpec.ofChange fnCorrelateSelfSpec)

/-- ITS FALSE NEIGHBOUR: 'it returns false'. Refute it at one input. -/
def fnCorrelateSelfWrong : ChangeSpec := { name := "fnCorrelateSelf", fn := fun _ => fun
  | [d] => { results := [.lit (.bool false)], args := [d] }
  | _ => none }
def FnCorrelateSelfWrongFalsely : Prop := fnCorrelateSelfRow.holds Try.pinned (OpenSpec.ofChange fnCorrelateSelfWrong)

/-- 'laws.FnCorrelateSum': WHATEVER THE INPUT: true; the input reads as it did. -/
def fnCorrelateSumSpec : ChangeSpec := { name := "fnCorrelateSum", fn := fun _ => fun
  | [d] => { results := [.lit (.bool true)], args := [d] }
  | _ => none }
def fnCorrelateSumRow : OpenClaim := { program := "ytiehommofdjgcaa", sum := "ed002296086b824ba16b5418f0bfd0b578c2445628ce3d1d697c48f1bd286405", func := "loop.example/radiointerferometer/laws.FnCorrelateSum", spec := "fnCorrelateSum", apart := false }
def FnCorrelateSumSaid : Prop := fnCorrelateSumRow.holds Try.pinned (OpenSpec.ofChange fnCorrelateSumSpec)

/-- ITS FALSE NEIGHBOUR: 'it returns false'. Refute it at one input. -/
def fnCorrelateSumWrong : ChangeSpec := { name := "fnCorrelateSum", fn := fun _ => fun
  | [d] => { results := [.lit (.bool false)], args := [d] }
  | _ => none }
def FnCorrelateSumWrongFalsely : Prop := fnCorrelateSumRow.holds Try.pinned (OpenSpec.ofChange fnCorrelateSumWrong)

/-- 'laws.FnCorrelateSwap': WHATEVER THE INPUT: true; the input reads as it did. -/
def fnCorrelateSwapSpec : ChangeSpec := { name := "fnCorrelateSwap", fn := fun _ => fun
  | [d] => { results := [.lit (.bool true)], args := [d] }
  | _ => none }
def fnCorrelateSwapRow : OpenClaim := { program := "ytiehommofdjgcaa", sum := "ed002296086b824ba16b5418f0bfd0b578c2445628ce3d1d697c48f1bd286405", func := "loop.example/radiointerferometer/laws.FnCorrelateSwap", spec := "fnCorrelateSwap", apart := false }
def FnCorrelateSwapSaid : Prop := fnCorrelateSwapRow.holds Try.pinned (OpenSpec.ofChange fnCorrelateSwapSpec)

/-- ITS FALSE NEIGHBOUR: 'it returns false'. Refute it at one input. -/
def fnCorrelateSwapWrong : ChangeSpec := { name := "fnCorrelateSwap", fn := fun _ => fun
  | [d] => { results := [.lit (.bool false)], args := [d] }
  | _ => none }
def FnCorrelateSwapWrongFalsely : Prop := fnCorrelateSwapRow.holds Try.pinned (OpenSpec.ofChange fnCorrelateSwapWrong)

/-- 'laws.FnCorrelateTimes': WHATEVER THE INPUT: true; the input reads as it did. -/
def fnCorrelateTimesSpec : ChangeSpec := { name := "fnCorrelateTimes", fn := fun _ => fun
  | [d] => { results := [.lit (.bool true)], args := [d] }
  | _ => none }
def fnCorrelateTimesRow : OpenClaim := { program := "ytiehommofdjgcaa", sum := "ed002296086b824ba16b5418f0bfd0b578c2445628ce3d1d697c48f1bd286405", func := "loop.example/radiointerferometer/laws.FnCorrelateTimes", spec := "fnCorrelateTimes", apart := false }
def FnCorrelateTimesSaid : Prop := fnCorrelateTimesRow.holds Try.pinned (OpenSpec.ofChange fnCorrelateTimesSpec)

/-- ITS FALSE NEIGHBOUR: 'it returns false'. Refute it at one input. -/
def fnCorrelateTimesWrong : ChangeSpec := { name := "fnCorrelateTimes", fn := fun _ => fun
  | [d] => { results := [.lit (.bool false)], args := [d] }
  | _ => none }
def FnCorrelateTimesWrongFalsely : Prop := fnCorrelateTimesRow.holds Try.pinned (OpenSpec.ofChange fnCorrelateTimesWrong)

/-- 'laws.FnCorrelateShift': WHATEVER THE INPUT: true; the input reads as it did. -/
def fnCorrelateShiftSpec : ChangeSpec := { name := "fnCorrelateShift", fn := fun _ => fun
  | [d1, d2] => { results := [.lit (.bool true)], args := [d1, d2] }
  | _ => none }
def fnCorrelateShiftRow : OpenClaim := { program := "ytiehommofdjgcaa", sum := "ed002296086b824ba16b5418f0bfd0b578c2445628ce3d1d697c48f1bd286405", func := "loop.example/radiointerferometer/laws.FnCorrelateShift", spec := "fnCorrelateShift", apart := false }
def FnCorrelateShiftSaid : Prop := fnCorrelateShiftRow.holds Try.pinned (OpenSpec.ofChange fnCorrelateShiftSpec)

/-- ITS FALSE NEIGHBOUR: 'it returns false'. Refute it at one input. -/
def fnCorrelateShiftWrong : ChangeSpec := { name := "fnCorrelateShift", fn := fun _ => fun
  | [d1, d2] => { results := [.lit (.bool false)], args := [d1, d2] }
  | _ => none }
def FnCorrelateShiftWrongFalsely : Prop := fnCorrelateShiftRow.holds Try.pinned (OpenSpec.ofChange fnCorrelateShiftWrong)

/-- 'laws.FnBest': WHATEVER THE INPUT: true; the input reads as it did. -/
def fnBestSpec : ChangeSpec := { name := "fnBest", fn := fun _ => fun
  | [d] => { results := [.lit (.bool true)], args := [d] }
  | _ => none }
def fnBestRow : OpenClaim := { program := "ytiehommofdjgcaa", sum := "ed002296086b824ba16b5418f0bfd0b578c2445628ce3d1d697c48f1bd286405", func := "loop.example/radiointerferometer/laws.FnBest", spec := "fnBest", apart := false }
def FnBestSaid : Prop := fnBestRow.holds Try.pinned (OpenSpec.ofChange fnBestSpec)

/-- ITS FALSE NEIGHBOUR: 'it returns false'. Refute it at one input. -/
def fnBestWrong : ChangeSpec := { name := "fnBest", fn := fun _ => fun
  | [d] => { results := [.lit (.bool false)], args := [d] }
  | _ => none }
def FnBestWrongFalsely : Prop := fnBestRow.holds Try.pinned (OpenSpec.ofChange fnBestWrong)

/-- 'laws.FnBestShift': WHATEVER THE INPUT: true; the input reads as it did. -/
def fnBestShiftSpec : ChangeSpec := { name := "fnBestShift", fn := fun _ => fun
  | [d1, d2] => { results := [.lit (.bool true)], args := [d1, d2] }
  | _ => none }
def fnBestShiftRow : OpenClaim := { program := "ytiehommofdjgcaa", sum := "ed002296086b824ba16b5418f0bfd0b578c2445628ce3d1d697c48f1bd286405", func := "loop.example/radiointerferometer/laws.FnBestShift", spec := "fnBestShift", apart := false }
def FnBestShiftSaid : Prop := fnBestShiftRow.holds Try.pinned (OpenSpec.ofChange fnBestShiftSpec)

/-- ITS FALSE NEIGHBOUR: 'it returns false'. Refute it at one input. -/
def fnBestShiftWrong : ChangeSpec := { name := "fnBestShift", fn := fun _ => fun
  | [d1, d2] => { results := [.lit (.bool false)], args := [d1, d2] }
  | _ => none }
def FnBestShiftWrongFalsely : Prop := fnBestShiftRow.holds Try.pinned (OpenSpec.ofChange fnBestShiftWrong)

/- THE SECOND FORM. 'bulk': how many values and letters a reading holds, each counted each time it is reached (what is shared counts as often as it is met; a slice's spare places count too). A statement '..UptoSaid' is the law's where the arguments, and the package variables that the reading takes, are together of bulk at most 1048576: NARROWER than '..Said'. Prove '..Said' where nothing that the law and all that it calls make is longer than what came in: it says more and counts as full. Else prove '..UptoSaid'. A law counts once. -/
mutual
def uptoBulk {H : Type} : DataW H → Nat
  | .lit (.string bytes) => bytes.length + 1
  | .lit _ => 1
  | .nil => 1
  | .ptr d => uptoBulk d + 1
  | .slice elems spare => uptoBulkAll elems + uptoBulkAll spare + 1
  | .agg parts => uptoBulkAll parts + 1
  | .iface _ d => uptoBulk d + 1
  | .map entries => uptoBulkEntries entries + 1
  | .held _ => 1
def uptoBulkAll {H : Type} : List (DataW H) → Nat
  | [] => 0
  | d :: r => uptoBulk d + uptoBulkAll r
def uptoBulkEntries {H : Type} : List (Lit × DataW H) → Nat
  | [] => 0
  | x :: r => uptoBulkEntry x + uptoBulkEntries r
def uptoBulkEntry {H : Type} : Lit × DataW H → Nat
  | (.string bytes, d) => bytes.length + uptoBulk d + 1
  | (_, d) => uptoBulk d + 1
 end
def uptoSmall : (H : Type) → List (DataW H) → Bool := fun _ ds => decide (uptoBulkAll ds ≤ 1048576)
def OpenSpec.upto (s : _root_.Go.ChangeSpec) : _root_.Go.OpenSpec := { _root_.Go.OpenSpec.ofChange s with cond := some uptoSmall }

/-- 'laws.FnExactCorrelate', WHERE WHAT IT READS IS OF BULK AT MOST 1048576: true; the input reads as it did. -/
def fnExactCorrelateUptoRow : OpenClaim := { program := "ytiehommofdjgcaa", sum := "ed002296086b824ba16b5418f0bfd0b578c2445628ce3d1d697c48f1bd286405", func := "loop.example/radiointerferometer/laws.FnExactCorrelate", spec := "fnExactCorrelate", apart := false, narrowed := true }
def FnExactCorrelateUptoSaid : Prop := fnExactCorrelateUptoRow.holds Try.pinned (OpenSpec.upto fnExactCorrelateSpec)

/-- 'laws.FnExactCorrelateBest', WHERE WHAT IT READS IS OF BULK AT MOST 1048576: true; the input reads as it did. -/
def fnExactCorrelateBestUptoRow : OpenClaim := { program := "ytiehommofdjgcaa", sum := "ed002296086b824ba16b5418f0bfd0b578c2445628ce3d1d697c48f1bd286405", func := "loop.example/radiointerferometer/laws.FnExactCorrelateBest", spec := "fnExactCorrelateBest", apart := false, narrowed := true }
def FnExactCorrelateBestUptoSaid : Prop := fnExactCorrelateBestUptoRow.holds Try.pinned (OpenSpec.upto fnExactCorrelateBestSpec)

/-- 'laws.FnCorrelateAdd', WHERE WHAT IT READS IS OF BULK AT MOST 1048576: true; the input reads as it did. -/
def fnCorrelateAddUptoRow : OpenClaim := { program := "ytiehommofdjgcaa", sum := "ed002296086b824ba16b5418f0bfd0b578c2445628ce3d1d697c48f1bd286405", func := "loop.example/radiointerferometer/laws.FnCorrelateAdd", spec := "fnCorrelateAdd", apart := false, narrowed := true }
def FnCorrelateAddUptoSaid : Prop := fnCorrelateAddUptoRow.holds Try.pinned (OpenSpec.upto fnCorrelateAddSpec)

/-- 'laws.FnCorrelateBound', WHERE WHAT IT READS IS OF BULK AT MOST 1048576: true; the input reads as it did. -/
def fnCorrelateBoundUptoRow : OpenClaim := { program := "ytiehommofdjgcaa", sum := "ed002296086b824ba16b5418f0bfd0b578c2445628ce3d1d697c48f1bd286405", func := "loop.example/radiointerferometer/laws.FnCorrelateBound", spec := "fnCorrelateBound", apart := false, narrowed := true }
def FnCorrelateBoundUptoSaid : Prop := fnCorrelateBoundUptoRow.holds Try.pinned (OpenSpec.upto fnCorrelateBoundSpec)

/-- 'laws.FnCorrelateSelf', WHERE WHAT IT READS IS OF BULK AT MOST 1048576: true; the input reads as it did. -/
def fnCorrelateSelfUptoRow : OpenClaim := { program := "ytiehommofdjgcaa", sum := "ed002296086b824ba16b5418f0bfd0b578c2445628ce3d1d697c48f1bd286405", func := "loop.example/radiointerferometer/laws.FnCorrelateSelf", spec := "fnCorrelateSelf", apart := false, narrowed := true }
def FnCorrelateSelfUptoSaid : Prop := fnCorrelateSelfUptoRow.holds Try.pinned (OpenSpec.upto fnCorrelateSelfSpec)

/-- 'laws.FnCorrelateSum', WHERE WHAT IT READS IS OF BULK AT MOST 1048576: true; the input reads as it did. -/
def fnCorrelateSumUptoRow : OpenClaim := { program := "ytiehommofdjgcaa", sum := "ed002296086b824ba16b5418f0bfd0b578c2445628ce3d1d697c48f1bd286405", func := "loop.example/radiointerferometer/laws.FnCorrelateSum", spec := "fnCorrelateSum", apart := false, narrowed := true }
def FnCorrelateSumUptoSaid : Prop := fnCorrelateSumUptoRow.holds Try.pinned (OpenSpec.upto fnCorrelateSumSpec)

/-- 'laws.FnCorrelateSwap', WHERE WHAT IT READS IS OF BULK AT MOST 1048576: true; the input reads as it did. -/
def fnCorrelateSwapUptoRow : OpenClaim := { program := "ytiehommofdjgcaa", sum := "ed002296086b824ba16b5418f0bfd0b578c2445628ce3d1d697c48f1bd286405", func := "loop.example/radiointerferometer/laws.FnCorrelateSwap", spec := "fnCorrelateSwap", apart := false, narrowed := true }
def FnCorrelateSwapUptoSaid : Prop := fnCorrelateSwapUptoRow.holds Try.pinned (OpenSpec.upto fnCorrelateSwapSpec)

/-- 'laws.FnCorrelateTimes', WHERE WHAT IT READS IS OF BULK AT MOST 1048576: true; the input reads as it did. -/
def fnCorrelateTimesUptoRow : OpenClaim := { program := "ytiehommofdjgcaa", sum := "ed002296086b824ba16b5418f0bfd0b578c2445628ce3d1d697c48f1bd286405", func := "loop.example/radiointerferometer/laws.FnCorrelateTimes", spec := "fnCorrelateTimes", apart := false, narrowed := true }
def FnCorrelateTimesUptoSaid : Prop := fnCorrelateTimesUptoRow.holds Try.pinned (OpenSpec.upto fnCorrelateTimesSpec)

/-- 'laws.FnCorrelateShift', WHERE WHAT IT READS IS OF BULK AT MOST 1048576: true; the input reads as it did. -/
def fnCorrelateShiftUptoRow : OpenClaim := { program := "ytiehommofdjgcaa", sum := "ed002296086b824ba16b5418f0bfd0b578c2445628ce3d1d697c48f1bd286405", func := "loop.example/radiointerferometer/laws.FnCorrelateShift", spec := "fnCorrelateShift", apart := false, narrowed := true }
def FnCorrelateShiftUptoSaid : Prop := fnCorrelateShiftUptoRow.holds Try.pinned (OpenSpec.upto fnCorrelateShiftSpec)

/-- 'laws.FnBest', WHERE WHAT IT READS IS OF BULK AT MOST 1048576: true; the input reads as it did. -/
def fnBestUptoRow : OpenClaim := { program := "ytiehommofdjgcaa", sum := "ed002296086b824ba16b5418f0bfd0b578c2445628ce3d1d697c48f1bd286405", func := "loop.example/radiointerferometer/laws.FnBest", spec := "fnBest", apart := false, narrowed := true }
def FnBestUptoSaid : Prop := fnBestUptoRow.holds Try.pinned (OpenSpec.upto fnBestSpec)

/-- 'laws.FnBestShift', WHERE WHAT IT READS IS OF BULK AT MOST 1048576: true; the input reads as it did. -/
def fnBestShiftUptoRow : OpenClaim := { program := "ytiehommofdjgcaa", sum := "ed002296086b824ba16b5418f0bfd0b578c2445628ce3d1d697c48f1bd286405", func := "loop.example/radiointerferometer/laws.FnBestShift", spec := "fnBestShift", apart := false, narrowed := true }
def FnBestShiftUptoSaid : Prop := fnBestShiftUptoRow.holds Try.pinned (OpenSpec.upto fnBestShiftSpec)

end Rows
end Go.Proofs.Ytiehommofdjgcaa
