/-
  No cell of these rows narrows 'for every input' (looked for: loops, veiled, ifaces, maps, wideKeys, modest, calm, conditions, laid).
  DERIVED. THE GIVEN ROWS OF THIS SEAT. 12 by the template 'for every input the law returns true; each argument reads behind the call as it read before'; 0 by the template 'total and deterministic' (their statements: YtleldjglhkmgmaaTotals.lean).
  GIVEN WITH THE SEED: the statements are not yours to turn. If you find one false, say at which input.
  Laid BY PROGRAM, IN A SANDBOX (cutbox-rows.mjs): the forced cells as the released guide's own fill.sh prints them over the translation 28c39cb4aa66a48f… (all of the seat's roots in one cut). By AI agents, Wed Nov 11 2026. No macro, syntax, notation, axiom, sorry.
-/
import Derived.Test.YtleldjglhkmgmaaChecked
import GoSem.Claim
import GoSem.ClaimJoined
import GoSem.ClaimMapViews
import Derived.JoinedTies
import Derived.KernelRfl
namespace Go.Proofs.Ytleldjglhkmgmaa
/- THE CELL 'sum', in the pinned program and in every row, IS THE sha256 OF THE DUMP (.gsa) THAT YtleldjglhkmgmaaProg.lean LOADS. Nothing in Lean hashes anything: it is a label: what it is worth is what the hold of that sum in a sandbox is worth. -/
noncomputable def Try.pinned : Pinned := { name := "ytleldjglhkmgmaa", sum := "28c39cb4aa66a48f20756bfe7f4f08ed5a5f396449f23360716d3aef41dfd3bb", checked := Try.checked }
namespace Rows
def none {H : Type} : Left H := { results := [], args := [] }

/-- 'laws.FnExactLevelsRank': WHATEVER THE INPUT: true; the input reads as it did. -/
def fnExactLevelsRankSpec : ChangeSpec := { name := "fnExactLevelsRank", fn := fun _ => fun
  | [d1, d2] => { results := [.lit (.bool true)], args := [d1, d2] }
  | _ => none }
def fnExactLevelsRankRow : OpenClaim := { program := "ytleldjglhkmgmaa", sum := "28c39cb4aa66a48f20756bfe7f4f08ed5a5f396449f23360716d3aef41dfd3bb", func := "loop.example/g01347/laws.FnExactLevelsRank", spec := "fnExactLevelsRank", unfollowed := true, recurses := true, apart := false }
def FnExactLevelsRankSaid : Prop := fnExactLevelsRankRow.holds Try.pinned (OpenSpec.ofChange fnExactLevelsRankSpec)

/-- ITS FALSE NEIGHBOUR: 'it returns false'. Refute it at one input. -/
def fnExactLevelsRankWrong : ChangeSpec := { name := "fnExactLevelsRank", fn := fun _ => fun
  | [d1, d2] => { results := [.lit (.bool false)], args := [d1, d2] }
  | _ => none }
def FnExactLevelsRankWrongFalsely : Prop := fnExactLevelsRankRow.holds Try.pinned (OpenSpec.ofChange fnExactLevelsRankWrong)

/-- 'laws.FnExactBestCuts': WHATEVER THE INPUT: true; the input reads as it did. -/
def fnExactBestCutsSpec : ChangeSpec := { name := "fnExactBestCuts", fn := fun _ => fun
  | [d1, d2] => { results := [.lit (.bool true)], args := [d1, d2] }
  | _ => none }
def fnExactBestCutsRow : OpenClaim := { program := "ytleldjglhkmgmaa", sum := "28c39cb4aa66a48f20756bfe7f4f08ed5a5f396449f23360716d3aef41dfd3bb", func := "loop.example/g01347/laws.FnExactBestCuts", spec := "fnExactBestCuts", unfollowed := true, recurses := true, apart := false }
def FnExactBestCutsSaid : Prop := fnExactBestCutsRow.holds Try.pinned (OpenSpec.ofChange fnExactBestCutsSpec)

/-- ITS FALSE NEIGHBOUR: 'it returns false'. Refute it at one input. -/
def fnExactBestCutsWrong : ChangeSpec := { name := "fnExactBestCuts", fn := fun _ => fun
  | [d1, d2] => { results := [.lit (.bool false)], args := [d1, d2] }
  | _ => none }
def FnExactBestCutsWrongFalsely : Prop := fnExactBestCutsRow.holds Try.pinned (OpenSpec.ofChange fnExactBestCutsWrong)

/-- 'laws.FnExactRanksOf': WHATEVER THE INPUT: true; the input reads as it did. -/
def fnExactRanksOfSpec : ChangeSpec := { name := "fnExactRanksOf", fn := fun _ => fun
  | [d1, d2] => { results := [.lit (.bool true)], args := [d1, d2] }
  | _ => none }
def fnExactRanksOfRow : OpenClaim := { program := "ytleldjglhkmgmaa", sum := "28c39cb4aa66a48f20756bfe7f4f08ed5a5f396449f23360716d3aef41dfd3bb", func := "loop.example/g01347/laws.FnExactRanksOf", spec := "fnExactRanksOf", unfollowed := true, recurses := true, apart := false }
def FnExactRanksOfSaid : Prop := fnExactRanksOfRow.holds Try.pinned (OpenSpec.ofChange fnExactRanksOfSpec)

/-- ITS FALSE NEIGHBOUR: 'it returns false'. Refute it at one input. -/
def fnExactRanksOfWrong : ChangeSpec := { name := "fnExactRanksOf", fn := fun _ => fun
  | [d1, d2] => { results := [.lit (.bool false)], args := [d1, d2] }
  | _ => none }
def FnExactRanksOfWrongFalsely : Prop := fnExactRanksOfRow.holds Try.pinned (OpenSpec.ofChange fnExactRanksOfWrong)

/-- 'laws.FnHistograms': WHATEVER THE INPUT: true; the input reads as it did. -/
def fnHistogramsSpec : ChangeSpec := { name := "fnHistograms", fn := fun _ => fun
  | [d1, d2] => { results := [.lit (.bool true)], args := [d1, d2] }
  | _ => none }
def fnHistogramsRow : OpenClaim := { program := "ytleldjglhkmgmaa", sum := "28c39cb4aa66a48f20756bfe7f4f08ed5a5f396449f23360716d3aef41dfd3bb", func := "loop.example/g01347/laws.FnHistograms", spec := "fnHistograms", inPlace := ["math.Float32bits"], unfollowed := true, recurses := true, apart := false }
def FnHistogramsSaid : Prop := fnHistogramsRow.holds Try.pinned (OpenSpec.ofChange fnHistogramsSpec)

/-- ITS FALSE NEIGHBOUR: 'it returns false'. Refute it at one input. -/
def fnHistogramsWrong : ChangeSpec := { name := "fnHistograms", fn := fun _ => fun
  | [d1, d2] => { results := [.lit (.bool false)], args := [d1, d2] }
  | _ => none }
def FnHistogramsWrongFalsely : Prop := fnHistogramsRow.holds Try.pinned (OpenSpec.ofChange fnHistogramsWrong)

/-- 'laws.FnExactSieveOf': WHATEVER THE INPUT: true; the input reads as it did. -/
def fnExactSieveOfSpec : ChangeSpec := { name := "fnExactSieveOf", fn := fun _ => fun
  | [d1, d2] => { results := [.lit (.bool true)], args := [d1, d2] }
  | _ => none }
def fnExactSieveOfRow : OpenClaim := { program := "ytleldjglhkmgmaa", sum := "28c39cb4aa66a48f20756bfe7f4f08ed5a5f396449f23360716d3aef41dfd3bb", func := "loop.example/g01347/laws.FnExactSieveOf", spec := "fnExactSieveOf", unfollowed := true, recurses := true, apart := false }
def FnExactSieveOfSaid : Prop := fnExactSieveOfRow.holds Try.pinned (OpenSpec.ofChange fnExactSieveOfSpec)

/-- ITS FALSE NEIGHBOUR: 'it returns false'. Refute it at one input. -/
def fnExactSieveOfWrong : ChangeSpec := { name := "fnExactSieveOf", fn := fun _ => fun
  | [d1, d2] => { results := [.lit (.bool false)], args := [d1, d2] }
  | _ => none }
def FnExactSieveOfWrongFalsely : Prop := fnExactSieveOfRow.holds Try.pinned (OpenSpec.ofChange fnExactSieveOfWrong)

/-- 'laws.FnExactCountOfZeros': WHATEVER THE INPUT: true; the input reads as it did. -/
def fnExactCountOfZerosSpec : ChangeSpec := { name := "fnExactCountOfZeros", fn := fun _ => fun
  | [d] => { results := [.lit (.bool true)], args := [d] }
  | _ => none }
def fnExactCountOfZerosRow : OpenClaim := { program := "ytleldjglhkmgmaa", sum := "28c39cb4aa66a48f20756bfe7f4f08ed5a5f396449f23360716d3aef41dfd3bb", func := "loop.example/g01347/laws.FnExactCountOfZeros", spec := "fnExactCountOfZeros", inPlace := ["math.Float64frombits", "math.Float64bits"], unfollowed := true, recurses := true, apart := false }
def FnExactCountOfZerosSaid : Prop := fnExactCountOfZerosRow.holds Try.pinned (OpenSpec.ofChange fnExactCountOfZerosSpec)

/-- ITS FALSE NEIGHBOUR: 'it returns false'. Refute it at one input. -/
def fnExactCountOfZerosWrong : ChangeSpec := { name := "fnExactCountOfZeros", fn := fun _ => fun
  | [d] => { results := [.lit (.bool false)], args := [d] }
  | _ => none }
def FnExactCountOfZerosWrongFalsely : Prop := fnExactCountOfZerosRow.holds Try.pinned (OpenSpec.ofChange fnExactCountOfZerosWrong)

/-- 'laws.FnExactPutFinger': WHATEVER THE INPUT: true; the input reads as it did. -/
def fnExactPutFingerSpec : ChangeSpec := { name := "fnExactPutFinger", fn := fun _ => fun
  | [d1, d2] => { results := [.lit (.bool true)], args := [d1, d2] }
  | _ => none }
def fnExactPutFingerRow : OpenClaim := { program := "ytleldjglhkmgmaa", sum := "28c39cb4aa66a48f20756bfe7f4f08ed5a5f396449f23360716d3aef41dfd3bb", func := "loop.example/g01347/laws.FnExactPutFinger", spec := "fnExactPutFinger", unfollowed := true, recurses := true, apart := false }
def FnExactPutFingerSaid : Prop := fnExactPutFingerRow.holds Try.pinned (OpenSpec.ofChange fnExactPutFingerSpec)

/-- ITS FALSE NEIGHBOUR: 'it returns false'. Refute it at one input. -/
def fnExactPutFingerWrong : ChangeSpec := { name := "fnExactPutFinger", fn := fun _ => fun
  | [d1, d2] => { results := [.lit (.bool false)], args := [d1, d2] }
  | _ => none }
def FnExactPutFingerWrongFalsely : Prop := fnExactPutFingerRow.holds Try.pinned (OpenSpec.ofChange fnExactPutFingerWrong)

/-- 'laws.FnExactSummaryRank': WHATEVER THE INPUT: true; the input reads as it did. -/
def fnExactSummaryRankSpec : ChangeSpec := { name := "fnExactSummaryRank", fn := fun _ => fun
  | [d1, d2] => { results := [.lit (.bool true)], args := [d1, d2] }
  | _ => none }
def fnExactSummaryRankRow : OpenClaim := { program := "ytleldjglhkmgmaa", sum := "28c39cb4aa66a48f20756bfe7f4f08ed5a5f396449f23360716d3aef41dfd3bb", func := "loop.example/g01347/laws.FnExactSummaryRank", spec := "fnExactSummaryRank", unfollowed := true, recurses := true, apart := false }
def FnExactSummaryRankSaid : Prop := fnExactSummaryRankRow.holds Try.pinned (OpenSpec.ofChange fnExactSummaryRankSpec)

/-- ITS FALSE NEIGHBOUR: 'it returns false'. Refute it at one input. -/
def fnExactSummaryRankWrong : ChangeSpec := { name := "fnExactSummaryRank", fn := fun _ => fun
  | [d1, d2] => { results := [.lit (.bool false)], args := [d1, d2] }
  | _ => none }
def FnExactSummaryRankWrongFalsely : Prop := fnExactSummaryRankRow.holds Try.pinned (OpenSpec.ofChange fnExactSummaryRankWrong)

/-- 'laws.FnExactClustersQuantile': WHATEVER THE INPUT: true; the input reads as it did. -/
def fnExactClustersQuantileSpec : ChangeSpec := { name := "fnExactClustersQuantile", fn := fun _ => fun
  | [d1, d2] => { results := [.lit (.bool true)], args := [d1, d2] }
  | _ => none }
def fnExactClustersQuantileRow : OpenClaim := { program := "ytleldjglhkmgmaa", sum := "28c39cb4aa66a48f20756bfe7f4f08ed5a5f396449f23360716d3aef41dfd3bb", func := "loop.example/g01347/laws.FnExactClustersQuantile", spec := "fnExactClustersQuantile", unfollowed := true, recurses := true, apart := false }
def FnExactClustersQuantileSaid : Prop := fnExactClustersQuantileRow.holds Try.pinned (OpenSpec.ofChange fnExactClustersQuantileSpec)

/-- ITS FALSE NEIGHBOUR: 'it returns false'. Refute it at one input. -/
def fnExactClustersQuantileWrong : ChangeSpec := { name := "fnExactClustersQuantile", fn := fun _ => fun
  | [d1, d2] => { results := [.lit (.bool false)], args := [d1, d2] }
  | _ => none }
def FnExactClustersQuantileWrongFalsely : Prop := fnExactClustersQuantileRow.holds Try.pinned (OpenSpec.ofChange fnExactClustersQuantileWrong)

/-- 'laws.FnExactClustersBelow': WHATEVER THE INPUT: true; the input reads as it did. -/
def fnExactClustersBelowSpec : ChangeSpec := { name := "fnExactClustersBelow", fn := fun _ => fun
  | [d1, d2] => { results := [.lit (.bool true)], args := [d1, d2] }
  | _ => none }
def fnExactClustersBelowRow : OpenClaim := { program := "ytleldjglhkmgmaa", sum := "28c39cb4aa66a48f20756bfe7f4f08ed5a5f396449f23360716d3aef41dfd3bb", func := "loop.example/g01347/laws.FnExactClustersBelow", spec := "fnExactClustersBelow", unfollowed := true, recurses := true, apart := false }
def FnExactClustersBelowSaid : Prop := fnExactClustersBelowRow.holds Try.pinned (OpenSpec.ofChange fnExactClustersBelowSpec)

/-- ITS FALSE NEIGHBOUR: 'it returns false'. Refute it at one input. -/
def fnExactClustersBelowWrong : ChangeSpec := { name := "fnExactClustersBelow", fn := fun _ => fun
  | [d1, d2] => { results := [.lit (.bool false)], args := [d1, d2] }
  | _ => none }
def FnExactClustersBelowWrongFalsely : Prop := fnExactClustersBelowRow.holds Try.pinned (OpenSpec.ofChange fnExactClustersBelowWrong)

/-- 'laws.FnExactSortedOf': WHATEVER THE INPUT: true; the input reads as it did. -/
def fnExactSortedOfSpec : ChangeSpec := { name := "fnExactSortedOf", fn := fun _ => fun
  | [d] => { results := [.lit (.bool true)], args := [d] }
  | _ => none }
def fnExactSortedOfRow : OpenClaim := { program := "ytleldjglhkmgmaa", sum := "28c39cb4aa66a48f20756bfe7f4f08ed5a5f396449f23360716d3aef41dfd3bb", func := "loop.example/g01347/laws.FnExactSortedOf", spec := "fnExactSortedOf", unfollowed := true, recurses := true, apart := false }
def FnExactSortedOfSaid : Prop := fnExactSortedOfRow.holds Try.pinned (OpenSpec.ofChange fnExactSortedOfSpec)

/-- ITS FALSE NEIGHBOUR: 'it returns false'. Refute it at one input. -/
def fnExactSortedOfWrong : ChangeSpec := { name := "fnExactSortedOf", fn := fun _ => fun
  | [d] => { results := [.lit (.bool false)], args := [d] }
  | _ => none }
def FnExactSortedOfWrongFalsely : Prop := fnExactSortedOfRow.holds Try.pinned (OpenSpec.ofChange fnExactSortedOfWrong)

/-- 'laws.FnSieves': WHATEVER THE INPUT: true; the input reads as it did. -/
def fnSievesSpec : ChangeSpec := { name := "fnSieves", fn := fun _ => fun
  | [d1, d2] => { results := [.lit (.bool true)], args := [d1, d2] }
  | _ => none }
def fnSievesRow : OpenClaim := { program := "ytleldjglhkmgmaa", sum := "28c39cb4aa66a48f20756bfe7f4f08ed5a5f396449f23360716d3aef41dfd3bb", func := "loop.example/g01347/laws.FnSieves", spec := "fnSieves", inPlace := ["math.Float64frombits"], unfollowed := true, recurses := true, apart := false }
def FnSievesSaid : Prop := fnSievesRow.holds Try.pinned (OpenSpec.ofChange fnSievesSpec)

/-- ITS FALSE NEIGHBOUR: 'it returns false'. Refute it at one input. -/
def fnSievesWrong : ChangeSpec := { name := "fnSieves", fn := fun _ => fun
  | [d1, d2] => { results := [.lit (.bool false)], args := [d1, d2] }
  | _ => none }
def FnSievesWrongFalsely : Prop := fnSievesRow.holds Try.pinned (OpenSpec.ofChange fnSievesWrong)

/- THE SECOND FORM. 'bulk': how many values and letters a reading holds, each counted each time it is reached (what is shared counts as often as it is met; a slice's spare places count too). A statement '..UptoSaid' is the law's where the arguments, and the package variables that the reading takes, are together of bulk at most 1048576: NARROWER than '..Said'. Prove '..Said' where nothing that the law and all that it calls make is longer than what came in: it says more and counts as full. Else prove '..UptoSaid'. A law counts once. -/
mutual
def uptoBulk {H : Type} : DataW H → Nat
  | .lit (.string bytes) => bytes.length + 1
  | .lit _ => 1
  | .nil => 1
  | .ptr d => uptoBulk d + 1
  | .slice elems spare => uptoBulkAll elems + uptoBulkAll spare + 1
  | .agg parts => uptoBulkAll parts + 1
  | .iface _ d => uptoBulk d + 1
  | .map entries => uptoBulkEntries entries + 1
  | .held _ => 1
def uptoBulkAll {H : Type} : List (DataW H) → Nat
  | [] => 0
  | d :: r => uptoBulk d + uptoBulkAll r
def uptoBulkEntries {H : Type} : List (Lit × DataW H) → Nat
  | [] => 0
  | x :: r => uptoBulkEntry x + uptoBulkEntries r
def uptoBulkEntry {H : Type} : Lit × DataW H → Nat
  | (.string bytes, d) => bytes.length + uptoBulk d + 1
  | (_, d) => uptoBulk d + 1
 end
def uptoSmall : (H : Type) → List (DataW H) → Bool := fun _ ds => decide (uptoBulkAll ds ≤ 1048576)
def OpenSpec.upto (s : _root_.Go.ChangeSpec) : _root_.Go.OpenSpec := { _root_.Go.OpenSpec.ofChange s with cond := some uptoSmall }

/-- 'laws.FnExactLevelsRank', WHERE WHAT IT READS IS OF BULK AT MOST 1048576: true; the input reads as it did. -/
def fnExactLevelsRankUptoRow : OpenClaim := { program := "ytleldjglhkmgmaa", sum := "28c39cb4aa66a48f20756bfe7f4f08ed5a5f396449f23360716d3aef41dfd3bb", func := "loop.example/g01347/laws.FnExactLevelsRank", spec := "fnExactLevelsRank", unfollowed := true, recurses := true, apart := false, narrowed := true }
def FnExactLevelsRankUptoSaid : Prop := fnExactLevelsRankUptoRow.holds Try.pinned (OpenSpec.upto fnExactLevelsRankSpec)

/-- 'laws.FnExactBestCuts', WHERE WHAT IT READS IS OF BULK AT MOST 1048576: true; the input reads as it did. -/
def fnExactBestCutsUptoRow : OpenClaim := { program := "ytleldjglhkmgmaa", sum := "28c39cb4aa66a48f20756bfe7f4f08ed5a5f396449f23360716d3aef41dfd3bb", func := "loop.example/g01347/laws.FnExactBestCuts", spec := "fnExactBestCuts", unfollowed := true, recurses := true, apart := false, narrowed := true }
def FnExactBestCutsUptoSaid : Prop := fnExactBestCutsUptoRow.holds Try.pinned (OpenSpec.upto fnExactBestCutsSpec)

/-- 'laws.FnExactRanksOf', WHERE WHAT IT READS IS OF BULK AT MOST 1048576: true; the input reads as it did. -/
def fnExactRanksOfUptoRow : OpenClaim := { program := "ytleldjglhkmgmaa", sum := "28c39cb4aa66a48f20756bfe7f4f08ed5a5f396449f23360716d3aef41dfd3bb", func := "loop.example/g01347/laws.FnExactRanksOf", spec := "fnExactRanksOf", unfollowed := true, recurses := true, apart := false, narrowed := true }
def FnExactRanksOfUptoSaid : Prop := fnExactRanksOfUptoRow.holds Try.pinned (OpenSpec.upto fnExactRanksOfSpec)

/-- 'laws.FnHistograms', WHERE WHAT IT READS IS OF BULK AT MOST 1048576: true; the input reads as it did. -/
def fnHistogramsUptoRow : OpenClaim := { program := "ytleldjglhkmgmaa", sum := "28c39cb4aa66a48f20756bfe7f4f08ed5a5f396449f23360716d3aef41dfd3bb", func := "loop.example/g01347/laws.FnHistograms", spec := "fnHistograms", inPlace := ["math.Float32bits"], unfollowed := true, recurses := true, apart := false, narrowed := true }
def FnHistogramsUptoSaid : Prop := fnHistogramsUptoRow.holds Try.pinned (OpenSpec.upto fnHistogramsSpec)

/-- 'laws.FnExactSieveOf', WHERE WHAT IT READS IS OF BULK AT MOST 1048576: true; the input reads as it did. -/
def fnExactSieveOfUptoRow : OpenClaim := { program := "ytleldjglhkmgmaa", sum := "28c39cb4aa66a48f20756bfe7f4f08ed5a5f396449f23360716d3aef41dfd3bb", func := "loop.example/g01347/laws.FnExactSieveOf", spec := "fnExactSieveOf", unfollowed := true, recurses := true, apart := false, narrowed := true }
def FnExactSieveOfUptoSaid : Prop := fnExactSieveOfUptoRow.holds Try.pinned (OpenSpec.upto fnExactSieveOfSpec)

/-- 'laws.FnExactCountOfZeros', WHERE WHAT IT READS IS OF BULK AT MOST 1048576: true; the input reads as it did. -/
def fnExactCountOfZerosUptoRow : OpenClaim := { program := "ytleldjglhkmgmaa", sum := "28c39cb4aa66a48f20756bfe7f4f08ed5a5f396449f23360716d3aef41dfd3bb", func := "loop.example/g01347/laws.FnExactCountOfZeros", spec := "fnExactCountOfZeros", inPlace := ["math.Float64frombits", "math.Float64bits"], unfollowed := true, recurses := true, apart := false, narrowed := true }
def FnExactCountOfZerosUptoSaid : Prop := fnExactCountOfZerosUptoRow.holds Try.pinned (OpenSpec.upto fnExactCountOfZerosSpec)

/-- 'laws.FnExactPutFinger', WHERE WHAT IT READS IS OF BULK AT MOST 1048576: true; the input reads as it did. -/
def fnExactPutFingerUptoRow : OpenClaim := { program := "ytleldjglhkmgmaa", sum := "28c39cb4aa66a48f20756bfe7f4f08ed5a5f396449f23360716d3aef41dfd3bb", func := "loop.example/g01347/laws.FnExactPutFinger", spec := "fnExactPutFinger", unfollowed := true, recurses := true, apart := false, narrowed := true }
def FnExactPutFingerUptoSaid : Prop := fnExactPutFingerUptoRow.holds Try.pinned (OpenSpec.upto fnExactPutFingerSpec)

/-- 'laws.FnExactSummaryRank', WHERE WHAT IT READS IS OF BULK AT MOST 1048576: true; the input reads as it did. -/
def fnExactSummaryRankUptoRow : OpenClaim := { program := "ytleldjglhkmgmaa", sum := "28c39cb4aa66a48f20756bfe7f4f08ed5a5f396449f23360716d3aef41dfd3bb", func := "loop.example/g01347/laws.FnExactSummaryRank", spec := "fnExactSummaryRank", unfollowed := true, recurses := true, apart := false, narrowed := true }
def FnExactSummaryRankUptoSaid : Prop := fnExactSummaryRankUptoRow.holds Try.pinned (OpenSpec.upto fnExactSummaryRankSpec)

/-- 'laws.FnExactClustersQuantile', WHERE WHAT IT READS IS OF BULK AT MOST 1048576: true; the input reads as it did. -/
def fnExactClustersQuantileUptoRow : OpenClaim := { program := "ytleldjglhkmgmaa", sum := "28c39cb4aa66a48f20756bfe7f4f08ed5a5f396449f23360716d3aef41dfd3bb", func := "loop.example/g01347/laws.FnExactClustersQuantile", spec := "fnExactClustersQuantile", unfollowed := true, recurses := true, apart := false, narrowed := true }
def FnExactClustersQuantileUptoSaid : Prop := fnExactClustersQuantileUptoRow.holds Try.pinned (OpenSpec.upto fnExactClustersQuantileSpec)

/-- 'laws.FnExactClustersBelow', WHERE WHAT IT READS IS OF BULK AT MOST 1048576: true; the input reads as it did. -/
def fnExactClustersBelowUptoRow : OpenClaim := { program := "ytleldjglhkmgmaa", sum := "28c39cb4aa66a48f20756bfe7f4f08ed5a5f396449f23360716d3aef41dfd3bb", func := "loop.example/g01347/laws.FnExactClustersBelow", spec := "fnExactClustersBelow", unfollowed := true, recurses := true, apart := false, narrowed := true }
def FnExactClustersBelowUptoSaid : Prop := fnExactClustersBelowUptoRow.holds Try.pinned (OpenSpec.upto fnExactClustersBelowSpec)

/-- 'laws.FnExactSortedOf', WHERE WHAT IT READS IS OF BULK AT MOST 1048576: true; the input reads as it did. -/
def fnExactSortedOfUptoRow : OpenClaim := { program := "ytleldjglhkmgmaa", sum := "28c39cb4aa66a48f20756bfe7f4f08ed5a5f396449f23360716d3aef41dfd3bb", func := "loop.example/g01347/laws.FnExactSortedOf", spec := "fnExactSortedOf", unfollowed := true, recurses := true, apart := false, narrowed := true }
def FnExactSortedOfUptoSaid : Prop := fnExactSortedOfUptoRow.holds Try.pinned (OpenSpec.upto fnExactSortedOfSpec)

/-- 'laws.FnSieves', WHERE WHAT IT READS IS OF BULK AT MOST 1048576: true; the input reads as it did. -/
def fnSievesUptoRow : OpenClaim := { program := "ytleldjglhkmgmaa", sum := "28c39cb4aa66a48f20756bfe7f4f08ed5a5f396449f23360716d3aef41dfd3bb", func := "loop.example/g01347/laws.FnSieves", spec := "fnSieves", inPlace := ["math.Float64frombits"], unfollowed := true, recurses := true, apart := false, narrowed := true }
def FnSievesUptoSaid : Prop := fnSievesUptoRow.holds Try.pinned (OpenSpec.upto fnSievesSpec)

end Rows
end Go.Proofs.Ytleldjglhkmgmaa
