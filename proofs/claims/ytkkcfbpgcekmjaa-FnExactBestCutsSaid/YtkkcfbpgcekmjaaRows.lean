/-
  No cell of these rows narrows 'for every input' (looked for: loops, veiled, ifaces, maps, wideKeys, modest, calm, conditions, laid).
  DERIVED. THE GIVEN ROWS OF THIS SEAT. 12 by the template 'for every input the law returns true; each argument reads behind the call as it read before'; 0 by the template 'total and deterministic' (their statements: YtkkcfbpgcekmjaaTotals.lean).
  GIVEN WITH THE SEED: the statements are not yours to turn. If you find one false, say at which input.
  Laid BY PROGRAM, IN A SANDBOX (cutbox-rows.mjs): the forced cells as the released guide's own fill.sh prints them over the translation 10fd614f2f2ff91a… (all of the seat's roots in one cut). By AI agents, Wed Nov 11 2026. No macro, syntax, notation, axiom, sorry.
-/
import Derived.Test.YtkkcfbpgcekmjaaChecked
import GoSem.Claim
import GoSem.ClaimJoined
import GoSem.ClaimMapViews
import Derived.JoinedTies
import Derived.KernelRfl
namespace Go.Proofs.Ytkkcfbpgcekmjaa
/- THE CELL 'sum', in the pinned program and in every row, IS THE sha256 OF THE DUMP (.gsa) THAT YtkkcfbpgcekmjaaProg.lean LOADS. Nothing in Lean hashes anything: it is a label: what it is worth is what the hold of that sum in a sandbox is worth. -/
noncomputable def Try.pinned : Pinned := { name := "ytkkcfbpgcekmjaa", sum := "10fd614f2f2ff91a2a541feb99e46647143f1c2d5016ee33ff352b02df8cb5c8", checked := Try.checked }
namespace Rows
def none {H : Type} : Left H := { results := [], args := [] }

/-- 'laws.FnExactMergeSummaries': WHATEVER THE INPUT: true; the input reads as it did. -/
def fnExactMergeSummariesSpec : ChangeSpec := { name := "fnExactMergeSummaries", fn := fun _ => fun
  | [d1, d2] => { results := [.lit (.bool true)], args := [d1, d2] }
  | _ => none }
def fnExactMergeSummariesRow : OpenClaim := { program := "ytkkcfbpgcekmjaa", sum := "10fd614f2f2ff91a2a541feb99e46647143f1c2d5016ee33ff352b02df8cb5c8", func := "loop.example/g01347/laws.FnExactMergeSummaries", spec := "fnExactMergeSummaries", unfollowed := true, recurses := true, apart := false }
def FnExactMergeSummariesSaid : Prop := fnExactMergeSummariesRow.holds Try.pinned (OpenSpec.ofChange fnExactMergeSummariesSpec)

/-- ITS FALSE NEIGHBOUR: 'it returns false'. Refute it at one input. -/
def fnExactMergeSummariesWrong : ChangeSpec := { name := "fnExactMergeSummaries", fn := fun _ => fun
  | [d1, d2] => { results := [.lit (.bool false)], args := [d1, d2] }
  | _ => none }
def FnExactMergeSummariesWrongFalsely : Prop := fnExactMergeSummariesRow.holds Try.pinned (OpenSpec.ofChange fnExactMergeSummariesWrong)

/-- 'laws.FnExactPutLevels': WHATEVER THE INPUT: true; the input reads as it did. -/
def fnExactPutLevelsSpec : ChangeSpec := { name := "fnExactPutLevels", fn := fun _ => fun
  | [d1, d2] => { results := [.lit (.bool true)], args := [d1, d2] }
  | _ => none }
def fnExactPutLevelsRow : OpenClaim := { program := "ytkkcfbpgcekmjaa", sum := "10fd614f2f2ff91a2a541feb99e46647143f1c2d5016ee33ff352b02df8cb5c8", func := "loop.example/g01347/laws.FnExactPutLevels", spec := "fnExactPutLevels", unfollowed := true, recurses := true, apart := false }
def FnExactPutLevelsSaid : Prop := fnExactPutLevelsRow.holds Try.pinned (OpenSpec.ofChange fnExactPutLevelsSpec)

/-- ITS FALSE NEIGHBOUR: 'it returns false'. Refute it at one input. -/
def fnExactPutLevelsWrong : ChangeSpec := { name := "fnExactPutLevels", fn := fun _ => fun
  | [d1, d2] => { results := [.lit (.bool false)], args := [d1, d2] }
  | _ => none }
def FnExactPutLevelsWrongFalsely : Prop := fnExactPutLevelsRow.holds Try.pinned (OpenSpec.ofChange fnExactPutLevelsWrong)

/-- 'laws.FnExactMergeLevels': WHATEVER THE INPUT: true; the input reads as it did. -/
def fnExactMergeLevelsSpec : ChangeSpec := { name := "fnExactMergeLevels", fn := fun _ => fun
  | [d1, d2] => { results := [.lit (.bool true)], args := [d1, d2] }
  | _ => none }
def fnExactMergeLevelsRow : OpenClaim := { program := "ytkkcfbpgcekmjaa", sum := "10fd614f2f2ff91a2a541feb99e46647143f1c2d5016ee33ff352b02df8cb5c8", func := "loop.example/g01347/laws.FnExactMergeLevels", spec := "fnExactMergeLevels", unfollowed := true, recurses := true, apart := false }
def FnExactMergeLevelsSaid : Prop := fnExactMergeLevelsRow.holds Try.pinned (OpenSpec.ofChange fnExactMergeLevelsSpec)

/-- ITS FALSE NEIGHBOUR: 'it returns false'. Refute it at one input. -/
def fnExactMergeLevelsWrong : ChangeSpec := { name := "fnExactMergeLevels", fn := fun _ => fun
  | [d1, d2] => { results := [.lit (.bool false)], args := [d1, d2] }
  | _ => none }
def FnExactMergeLevelsWrongFalsely : Prop := fnExactMergeLevelsRow.holds Try.pinned (OpenSpec.ofChange fnExactMergeLevelsWrong)

/-- 'laws.FnExactCountOfZeros': WHATEVER THE INPUT: true; the input reads as it did. -/
def fnExactCountOfZerosSpec : ChangeSpec := { name := "fnExactCountOfZeros", fn := fun _ => fun
  | [d] => { results := [.lit (.bool true)], args := [d] }
  | _ => none }
def fnExactCountOfZerosRow : OpenClaim := { program := "ytkkcfbpgcekmjaa", sum := "10fd614f2f2ff91a2a541feb99e46647143f1c2d5016ee33ff352b02df8cb5c8", func := "loop.example/g01347/laws.FnExactCountOfZeros", spec := "fnExactCountOfZeros", inPlace := ["math.Float64frombits", "math.Float64bits"], unfollowed := true, recurses := true, apart := false }
def FnExactCountOfZerosSaid : Prop := fnExactCountOfZerosRow.holds Try.pinned (OpenSpec.ofChange fnExactCountOfZerosSpec)

/-- ITS FALSE NEIGHBOUR: 'it returns false'. Refute it at one input. -/
def fnExactCountOfZerosWrong : ChangeSpec := { name := "fnExactCountOfZeros", fn := fun _ => fun
  | [d] => { results := [.lit (.bool false)], args := [d] }
  | _ => none }
def FnExactCountOfZerosWrongFalsely : Prop := fnExactCountOfZerosRow.holds Try.pinned (OpenSpec.ofChange fnExactCountOfZerosWrong)

/-- 'laws.FnExactPutTop': WHATEVER THE INPUT: true; the input reads as it did. -/
def fnExactPutTopSpec : ChangeSpec := { name := "fnExactPutTop", fn := fun _ => fun
  | [d1, d2] => { results := [.lit (.bool true)], args := [d1, d2] }
  | _ => none }
def fnExactPutTopRow : OpenClaim := { program := "ytkkcfbpgcekmjaa", sum := "10fd614f2f2ff91a2a541feb99e46647143f1c2d5016ee33ff352b02df8cb5c8", func := "loop.example/g01347/laws.FnExactPutTop", spec := "fnExactPutTop", unfollowed := true, recurses := true, apart := false }
def FnExactPutTopSaid : Prop := fnExactPutTopRow.holds Try.pinned (OpenSpec.ofChange fnExactPutTopSpec)

/-- ITS FALSE NEIGHBOUR: 'it returns false'. Refute it at one input. -/
def fnExactPutTopWrong : ChangeSpec := { name := "fnExactPutTop", fn := fun _ => fun
  | [d1, d2] => { results := [.lit (.bool false)], args := [d1, d2] }
  | _ => none }
def FnExactPutTopWrongFalsely : Prop := fnExactPutTopRow.holds Try.pinned (OpenSpec.ofChange fnExactPutTopWrong)

/-- 'laws.FnExactBestCuts': WHATEVER THE INPUT: true; the input reads as it did. -/
def fnExactBestCutsSpec : ChangeSpec := { name := "fnExactBestCuts", fn := fun _ => fun
  | [d1, d2] => { results := [.lit (.bool true)], args := [d1, d2] }
  | _ => none }
def fnExactBestCutsRow : OpenClaim := { program := "ytkkcfbpgcekmjaa", sum := "10fd614f2f2ff91a2a541feb99e46647143f1c2d5016ee33ff352b02df8cb5c8", func := "loop.example/g01347/laws.FnExactBestCuts", spec := "fnExactBestCuts", unfollowed := true, recurses := true, apart := false }
def FnExactBestCutsSaid : Prop := fnExactBestCutsRow.holds Try.pinned (OpenSpec.ofChange fnExactBestCutsSpec)

/-- ITS FALSE NEIGHBOUR: 'it returns false'. Refute it at one input. -/
def fnExactBestCutsWrong : ChangeSpec := { name := "fnExactBestCuts", fn := fun _ => fun
  | [d1, d2] => { results := [.lit (.bool false)], args := [d1, d2] }
  | _ => none }
def FnExactBestCutsWrongFalsely : Prop := fnExactBestCutsRow.holds Try.pinned (OpenSpec.ofChange fnExactBestCutsWrong)

/-- 'laws.FnExactJoinLeast': WHATEVER THE INPUT: true; the input reads as it did. -/
def fnExactJoinLeastSpec : ChangeSpec := { name := "fnExactJoinLeast", fn := fun _ => fun
  | [d1, d2, d3] => { results := [.lit (.bool true)], args := [d1, d2, d3] }
  | _ => none }
def fnExactJoinLeastRow : OpenClaim := { program := "ytkkcfbpgcekmjaa", sum := "10fd614f2f2ff91a2a541feb99e46647143f1c2d5016ee33ff352b02df8cb5c8", func := "loop.example/g01347/laws.FnExactJoinLeast", spec := "fnExactJoinLeast", unfollowed := true, recurses := true, apart := false }
def FnExactJoinLeastSaid : Prop := fnExactJoinLeastRow.holds Try.pinned (OpenSpec.ofChange fnExactJoinLeastSpec)

/-- ITS FALSE NEIGHBOUR: 'it returns false'. Refute it at one input. -/
def fnExactJoinLeastWrong : ChangeSpec := { name := "fnExactJoinLeast", fn := fun _ => fun
  | [d1, d2, d3] => { results := [.lit (.bool false)], args := [d1, d2, d3] }
  | _ => none }
def FnExactJoinLeastWrongFalsely : Prop := fnExactJoinLeastRow.holds Try.pinned (OpenSpec.ofChange fnExactJoinLeastWrong)

/-- 'laws.FnExactMeetOfLeast': WHATEVER THE INPUT: true; the input reads as it did. -/
def fnExactMeetOfLeastSpec : ChangeSpec := { name := "fnExactMeetOfLeast", fn := fun _ => fun
  | [d1, d2, d3] => { results := [.lit (.bool true)], args := [d1, d2, d3] }
  | _ => none }
def fnExactMeetOfLeastRow : OpenClaim := { program := "ytkkcfbpgcekmjaa", sum := "10fd614f2f2ff91a2a541feb99e46647143f1c2d5016ee33ff352b02df8cb5c8", func := "loop.example/g01347/laws.FnExactMeetOfLeast", spec := "fnExactMeetOfLeast", unfollowed := true, recurses := true, apart := false }
def FnExactMeetOfLeastSaid : Prop := fnExactMeetOfLeastRow.holds Try.pinned (OpenSpec.ofChange fnExactMeetOfLeastSpec)

/-- ITS FALSE NEIGHBOUR: 'it returns false'. Refute it at one input. -/
def fnExactMeetOfLeastWrong : ChangeSpec := { name := "fnExactMeetOfLeast", fn := fun _ => fun
  | [d1, d2, d3] => { results := [.lit (.bool false)], args := [d1, d2, d3] }
  | _ => none }
def FnExactMeetOfLeastWrongFalsely : Prop := fnExactMeetOfLeastRow.holds Try.pinned (OpenSpec.ofChange fnExactMeetOfLeastWrong)

/-- 'laws.FnExactPutCluster': WHATEVER THE INPUT: true; the input reads as it did. -/
def fnExactPutClusterSpec : ChangeSpec := { name := "fnExactPutCluster", fn := fun _ => fun
  | [d1, d2] => { results := [.lit (.bool true)], args := [d1, d2] }
  | _ => none }
def fnExactPutClusterRow : OpenClaim := { program := "ytkkcfbpgcekmjaa", sum := "10fd614f2f2ff91a2a541feb99e46647143f1c2d5016ee33ff352b02df8cb5c8", func := "loop.example/g01347/laws.FnExactPutCluster", spec := "fnExactPutCluster", inPlace := ["slices.overlaps[float32]", "slices.overlaps[int64]"], unfollowed := true, recurses := true, apart := false }
def FnExactPutClusterSaid : Prop := fnExactPutClusterRow.holds Try.pinned (OpenSpec.ofChange fnExactPutClusterSpec)

/-- ITS FALSE NEIGHBOUR: 'it returns false'. Refute it at one input. -/
def fnExactPutClusterWrong : ChangeSpec := { name := "fnExactPutCluster", fn := fun _ => fun
  | [d1, d2] => { results := [.lit (.bool false)], args := [d1, d2] }
  | _ => none }
def FnExactPutClusterWrongFalsely : Prop := fnExactPutClusterRow.holds Try.pinned (OpenSpec.ofChange fnExactPutClusterWrong)

/-- 'laws.FnExactPutSummary': WHATEVER THE INPUT: true; the input reads as it did. -/
def fnExactPutSummarySpec : ChangeSpec := { name := "fnExactPutSummary", fn := fun _ => fun
  | [d1, d2] => { results := [.lit (.bool true)], args := [d1, d2] }
  | _ => none }
def fnExactPutSummaryRow : OpenClaim := { program := "ytkkcfbpgcekmjaa", sum := "10fd614f2f2ff91a2a541feb99e46647143f1c2d5016ee33ff352b02df8cb5c8", func := "loop.example/g01347/laws.FnExactPutSummary", spec := "fnExactPutSummary", inPlace := ["slices.overlaps[float32]", "slices.overlaps[int64]"], unfollowed := true, recurses := true, apart := false }
def FnExactPutSummarySaid : Prop := fnExactPutSummaryRow.holds Try.pinned (OpenSpec.ofChange fnExactPutSummarySpec)

/-- ITS FALSE NEIGHBOUR: 'it returns false'. Refute it at one input. -/
def fnExactPutSummaryWrong : ChangeSpec := { name := "fnExactPutSummary", fn := fun _ => fun
  | [d1, d2] => { results := [.lit (.bool false)], args := [d1, d2] }
  | _ => none }
def FnExactPutSummaryWrongFalsely : Prop := fnExactPutSummaryRow.holds Try.pinned (OpenSpec.ofChange fnExactPutSummaryWrong)

/-- 'laws.FnExactLevelsQuantile': WHATEVER THE INPUT: true; the input reads as it did. -/
def fnExactLevelsQuantileSpec : ChangeSpec := { name := "fnExactLevelsQuantile", fn := fun _ => fun
  | [d1, d2] => { results := [.lit (.bool true)], args := [d1, d2] }
  | _ => none }
def fnExactLevelsQuantileRow : OpenClaim := { program := "ytkkcfbpgcekmjaa", sum := "10fd614f2f2ff91a2a541feb99e46647143f1c2d5016ee33ff352b02df8cb5c8", func := "loop.example/g01347/laws.FnExactLevelsQuantile", spec := "fnExactLevelsQuantile", inPlace := ["math.archCeil", "math.archFloor", "math.Float64bits", "math.Float64frombits", "math.archTrunc"], unfollowed := true, recurses := true, apart := false }
def FnExactLevelsQuantileSaid : Prop := fnExactLevelsQuantileRow.holds Try.pinned (OpenSpec.ofChange fnExactLevelsQuantileSpec)

/-- ITS FALSE NEIGHBOUR: 'it returns false'. Refute it at one input. -/
def fnExactLevelsQuantileWrong : ChangeSpec := { name := "fnExactLevelsQuantile", fn := fun _ => fun
  | [d1, d2] => { results := [.lit (.bool false)], args := [d1, d2] }
  | _ => none }
def FnExactLevelsQuantileWrongFalsely : Prop := fnExactLevelsQuantileRow.holds Try.pinned (OpenSpec.ofChange fnExactLevelsQuantileWrong)

/-- 'laws.FnExactPeelCells': WHATEVER THE INPUT: true; the input reads as it did. -/
def fnExactPeelCellsSpec : ChangeSpec := { name := "fnExactPeelCells", fn := fun _ => fun
  | [d1, d2, d3] => { results := [.lit (.bool true)], args := [d1, d2, d3] }
  | _ => none }
def fnExactPeelCellsRow : OpenClaim := { program := "ytkkcfbpgcekmjaa", sum := "10fd614f2f2ff91a2a541feb99e46647143f1c2d5016ee33ff352b02df8cb5c8", func := "loop.example/g01347/laws.FnExactPeelCells", spec := "fnExactPeelCells", unfollowed := true, recurses := true, apart := false }
def FnExactPeelCellsSaid : Prop := fnExactPeelCellsRow.holds Try.pinned (OpenSpec.ofChange fnExactPeelCellsSpec)

/-- ITS FALSE NEIGHBOUR: 'it returns false'. Refute it at one input. -/
def fnExactPeelCellsWrong : ChangeSpec := { name := "fnExactPeelCells", fn := fun _ => fun
  | [d1, d2, d3] => { results := [.lit (.bool false)], args := [d1, d2, d3] }
  | _ => none }
def FnExactPeelCellsWrongFalsely : Prop := fnExactPeelCellsRow.holds Try.pinned (OpenSpec.ofChange fnExactPeelCellsWrong)

/- THE SECOND FORM. 'bulk': how many values and letters a reading holds, each counted each time it is reached (what is shared counts as often as it is met; a slice's spare places count too). A statement '..UptoSaid' is the law's where the arguments, and the package variables that the reading takes, are together of bulk at most 1048576: NARROWER than '..Said'. Prove '..Said' where nothing that the law and all that it calls make is longer than what came in: it says more and counts as full. Else prove '..UptoSaid'. A law counts once. -/
mutual
def uptoBulk {H : Type} : DataW H → Nat
  | .lit (.string bytes) => bytes.length + 1
  | .lit _ => 1
  | .nil => 1
  | .ptr d => uptoBulk d + 1
  | .slice elems spare => uptoBulkAll elems + uptoBulkAll spare + 1
  | .agg parts => uptoBulkAll parts + 1
  | .iface _ d => uptoBulk d + 1
  | .map entries => uptoBulkEntries entries + 1
  | .held _ => 1
def uptoBulkAll {H : Type} : List (DataW H) → Nat
  | [] => 0
  | d :: r => uptoBulk d + uptoBulkAll r
def uptoBulkEntries {H : Type} : List (Lit × DataW H) → Nat
  | [] => 0
  | x :: r => uptoBulkEntry x + uptoBulkEntries r
def uptoBulkEntry {H : Type} : Lit × DataW H → Nat
  | (.string bytes, d) => bytes.length + uptoBulk d + 1
  | (_, d) => uptoBulk d + 1
 end
def uptoSmall : (H : Type) → List (DataW H) → Bool := fun _ ds => decide (uptoBulkAll ds ≤ 1048576)
def OpenSpec.upto (s : _root_.Go.ChangeSpec) : _root_.Go.OpenSpec := { _root_.Go.OpenSpec.ofChange s with cond := some uptoSmall }

/-- 'laws.FnExactMergeSummaries', WHERE WHAT IT READS IS OF BULK AT MOST 1048576: true; the input reads as it did. -/
def fnExactMergeSummariesUptoRow : OpenClaim := { program := "ytkkcfbpgcekmjaa", sum := "10fd614f2f2ff91a2a541feb99e46647143f1c2d5016ee33ff352b02df8cb5c8", func := "loop.example/g01347/laws.FnExactMergeSummaries", spec := "fnExactMergeSummaries", unfollowed := true, recurses := true, apart := false, narrowed := true }
def FnExactMergeSummariesUptoSaid : Prop := fnExactMergeSummariesUptoRow.holds Try.pinned (OpenSpec.upto fnExactMergeSummariesSpec)

/-- 'laws.FnExactPutLevels', WHERE WHAT IT READS IS OF BULK AT MOST 1048576: true; the input reads as it did. -/
def fnExactPutLevelsUptoRow : OpenClaim := { program := "ytkkcfbpgcekmjaa", sum := "10fd614f2f2ff91a2a541feb99e46647143f1c2d5016ee33ff352b02df8cb5c8", func := "loop.example/g01347/laws.FnExactPutLevels", spec := "fnExactPutLevels", unfollowed := true, recurses := true, apart := false, narrowed := true }
def FnExactPutLevelsUptoSaid : Prop := fnExactPutLevelsUptoRow.holds Try.pinned (OpenSpec.upto fnExactPutLevelsSpec)

/-- 'laws.FnExactMergeLevels', WHERE WHAT IT READS IS OF BULK AT MOST 1048576: true; the input reads as it did. -/
def fnExactMergeLevelsUptoRow : OpenClaim := { program := "ytkkcfbpgcekmjaa", sum := "10fd614f2f2ff91a2a541feb99e46647143f1c2d5016ee33ff352b02df8cb5c8", func := "loop.example/g01347/laws.FnExactMergeLevels", spec := "fnExactMergeLevels", unfollowed := true, recurses := true, apart := false, narrowed := true }
def FnExactMergeLevelsUptoSaid : Prop := fnExactMergeLevelsUptoRow.holds Try.pinned (OpenSpec.upto fnExactMergeLevelsSpec)

/-- 'laws.FnExactCountOfZeros', WHERE WHAT IT READS IS OF BULK AT MOST 1048576: true; the input reads as it did. -/
def fnExactCountOfZerosUptoRow : OpenClaim := { program := "ytkkcfbpgcekmjaa", sum := "10fd614f2f2ff91a2a541feb99e46647143f1c2d5016ee33ff352b02df8cb5c8", func := "loop.example/g01347/laws.FnExactCountOfZeros", spec := "fnExactCountOfZeros", inPlace := ["math.Float64frombits", "math.Float64bits"], unfollowed := true, recurses := true, apart := false, narrowed := true }
def FnExactCountOfZerosUptoSaid : Prop := fnExactCountOfZerosUptoRow.holds Try.pinned (OpenSpec.upto fnExactCountOfZerosSpec)

/-- 'laws.FnExactPutTop', WHERE WHAT IT READS IS OF BULK AT MOST 1048576: true; the input reads as it did. -/
def fnExactPutTopUptoRow : OpenClaim := { program := "ytkkcfbpgcekmjaa", sum := "10fd614f2f2ff91a2a541feb99e46647143f1c2d5016ee33ff352b02df8cb5c8", func := "loop.example/g01347/laws.FnExactPutTop", spec := "fnExactPutTop", unfollowed := true, recurses := true, apart := false, narrowed := true }
def FnExactPutTopUptoSaid : Prop := fnExactPutTopUptoRow.holds Try.pinned (OpenSpec.upto fnExactPutTopSpec)

/-- 'laws.FnExactBestCuts', WHERE WHAT IT READS IS OF BULK AT MOST 1048576: true; the input reads as it did. -/
def fnExactBestCutsUptoRow : OpenClaim := { program := "ytkkcfbpgcekmjaa", sum := "10fd614f2f2ff91a2a541feb99e46647143f1c2d5016ee33ff352b02df8cb5c8", func := "loop.example/g01347/laws.FnExactBestCuts", spec := "fnExactBestCuts", unfollowed := true, recurses := true, apart := false, narrowed := true }
def FnExactBestCutsUptoSaid : Prop := fnExactBestCutsUptoRow.holds Try.pinned (OpenSpec.upto fnExactBestCutsSpec)

/-- 'laws.FnExactJoinLeast', WHERE WHAT IT READS IS OF BULK AT MOST 1048576: true; the input reads as it did. -/
def fnExactJoinLeastUptoRow : OpenClaim := { program := "ytkkcfbpgcekmjaa", sum := "10fd614f2f2ff91a2a541feb99e46647143f1c2d5016ee33ff352b02df8cb5c8", func := "loop.example/g01347/laws.FnExactJoinLeast", spec := "fnExactJoinLeast", unfollowed := true, recurses := true, apart := false, narrowed := true }
def FnExactJoinLeastUptoSaid : Prop := fnExactJoinLeastUptoRow.holds Try.pinned (OpenSpec.upto fnExactJoinLeastSpec)

/-- 'laws.FnExactMeetOfLeast', WHERE WHAT IT READS IS OF BULK AT MOST 1048576: true; the input reads as it did. -/
def fnExactMeetOfLeastUptoRow : OpenClaim := { program := "ytkkcfbpgcekmjaa", sum := "10fd614f2f2ff91a2a541feb99e46647143f1c2d5016ee33ff352b02df8cb5c8", func := "loop.example/g01347/laws.FnExactMeetOfLeast", spec := "fnExactMeetOfLeast", unfollowed := true, recurses := true, apart := false, narrowed := true }
def FnExactMeetOfLeastUptoSaid : Prop := fnExactMeetOfLeastUptoRow.holds Try.pinned (OpenSpec.upto fnExactMeetOfLeastSpec)

/-- 'laws.FnExactPutCluster', WHERE WHAT IT READS IS OF BULK AT MOST 1048576: true; the input reads as it did. -/
def fnExactPutClusterUptoRow : OpenClaim := { program := "ytkkcfbpgcekmjaa", sum := "10fd614f2f2ff91a2a541feb99e46647143f1c2d5016ee33ff352b02df8cb5c8", func := "loop.example/g01347/laws.FnExactPutCluster", spec := "fnExactPutCluster", inPlace := ["slices.overlaps[float32]", "slices.overlaps[int64]"], unfollowed := true, recurses := true, apart := false, narrowed := true }
def FnExactPutClusterUptoSaid : Prop := fnExactPutClusterUptoRow.holds Try.pinned (OpenSpec.upto fnExactPutClusterSpec)

/-- 'laws.FnExactPutSummary', WHERE WHAT IT READS IS OF BULK AT MOST 1048576: true; the input reads as it did. -/
def fnExactPutSummaryUptoRow : OpenClaim := { program := "ytkkcfbpgcekmjaa", sum := "10fd614f2f2ff91a2a541feb99e46647143f1c2d5016ee33ff352b02df8cb5c8", func := "loop.example/g01347/laws.FnExactPutSummary", spec := "fnExactPutSummary", inPlace := ["slices.overlaps[float32]", "slices.overlaps[int64]"], unfollowed := true, recurses := true, apart := false, narrowed := true }
def FnExactPutSummaryUptoSaid : Prop := fnExactPutSummaryUptoRow.holds Try.pinned (OpenSpec.upto fnExactPutSummarySpec)

/-- 'laws.FnExactLevelsQuantile', WHERE WHAT IT READS IS OF BULK AT MOST 1048576: true; the input reads as it did. -/
def fnExactLevelsQuantileUptoRow : OpenClaim := { program := "ytkkcfbpgcekmjaa", sum := "10fd614f2f2ff91a2a541feb99e46647143f1c2d5016ee33ff352b02df8cb5c8", func := "loop.example/g01347/laws.FnExactLevelsQuantile", spec := "fnExactLevelsQuantile", inPlace := ["math.archCeil", "math.archFloor", "math.Float64bits", "math.Float64frombits", "math.archTrunc"], unfollowed := true, recurses := true, apart := false, narrowed := true }
def FnExactLevelsQuantileUptoSaid : Prop := fnExactLevelsQuantileUptoRow.holds Try.pinned (OpenSpec.upto fnExactLevelsQuantileSpec)

/-- 'laws.FnExactPeelCells', WHERE WHAT IT READS IS OF BULK AT MOST 1048576: true; the input reads as it did. -/
def fnExactPeelCellsUptoRow : OpenClaim := { program := "ytkkcfbpgcekmjaa", sum := "10fd614f2f2ff91a2a541feb99e46647143f1c2d5016ee33ff352b02df8cb5c8", func := "loop.example/g01347/laws.FnExactPeelCells", spec := "fnExactPeelCells", unfollowed := true, recurses := true, apart := false, narrowed := true }
def FnExactPeelCellsUptoSaid : Prop := fnExactPeelCellsUptoRow.holds Try.pinned (OpenSpec.upto fnExactPeelCellsSpec)

end Rows
end Go.Proofs.Ytkkcfbpgcekmjaa
