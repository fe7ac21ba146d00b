/-
  No cell of these rows narrows 'for every input' (looked for: loops, veiled, ifaces, maps, wideKeys, modest, calm, conditions, laid).
  DERIVED. THE GIVEN ROWS OF THIS SEAT. 12 by the template 'for every input the law returns true; each argument reads behind the call as it read before'; 0 by the template 'total and deterministic' (their statements: YtnpbccgnhmpalaaTotals.lean).
  GIVEN WITH THE SEED: the statements are not yours to turn. If you find one false, say at which input.
  Laid BY PROGRAM, IN A SANDBOX (cutbox-rows.mjs): the forced cells as the released guide's own fill.sh prints them over the translation f2b6da355788896f… (all of the seat's roots in one cut). By AI agents, Wed Nov 11 2026. No macro, syntax, notation, axiom, sorry.
-/
import Derived.Test.YtnpbccgnhmpalaaChecked
import GoSem.Claim
import GoSem.ClaimJoined
import GoSem.ClaimMapViews
import Derived.JoinedTies
import Derived.KernelRfl
namespace Go.Proofs.Ytnpbccgnhmpalaa
/- THE CELL 'sum', in the pinned program and in every row, IS THE sha256 OF THE DUMP (.gsa) THAT YtnpbccgnhmpalaaProg.lean LOADS. Nothing in Lean hashes anything: it is a label: what it is worth is what the hold of that sum in a sandbox is worth. -/
noncomputable def Try.pinned : Pinned := { name := "ytnpbccgnhmpalaa", sum := "f2b6da355788896f92efd25c1dedecf464418babeb8b55248c2fab8ffa9639ca", checked := Try.checked }
namespace Rows
def none {H : Type} : Left H := { results := [], args := [] }

/-- 'laws.FnExactSieveOf': WHATEVER THE INPUT: true; the input reads as it did. -/
def fnExactSieveOfSpec : ChangeSpec := { name := "fnExactSieveOf", fn := fun _ => fun
  | [d1, d2] => { results := [.lit (.bool true)], args := [d1, d2] }
  | _ => none }
def fnExactSieveOfRow : OpenClaim := { program := "ytnpbccgnhmpalaa", sum := "f2b6da355788896f92efd25c1dedecf464418babeb8b55248c2fab8ffa9639ca", func := "loop.example/g01347/laws.FnExactSieveOf", spec := "fnExactSieveOf", unfollowed := true, recurses := true, apart := false }
def FnExactSieveOfSaid : Prop := fnExactSieveOfRow.holds Try.pinned (OpenSpec.ofChange fnExactSieveOfSpec)

/-- ITS FALSE NEIGHBOUR: 'it returns false'. Refute it at one input. -/
def fnExactSieveOfWrong : ChangeSpec := { name := "fnExactSieveOf", fn := fun _ => fun
  | [d1, d2] => { results := [.lit (.bool false)], args := [d1, d2] }
  | _ => none }
def FnExactSieveOfWrongFalsely : Prop := fnExactSieveOfRow.holds Try.pinned (OpenSpec.ofChange fnExactSieveOfWrong)

/-- 'laws.FnExactCountOfZeros': WHATEVER THE INPUT: true; the input reads as it did. -/
def fnExactCountOfZerosSpec : ChangeSpec := { name := "fnExactCountOfZeros", fn := fun _ => fun
  | [d] => { results := [.lit (.bool true)], args := [d] }
  | _ => none }
def fnExactCountOfZerosRow : OpenClaim := { program := "ytnpbccgnhmpalaa", sum := "f2b6da355788896f92efd25c1dedecf464418babeb8b55248c2fab8ffa9639ca", func := "loop.example/g01347/laws.FnExactCountOfZeros", spec := "fnExactCountOfZeros", inPlace := ["math.Float64frombits", "math.Float64bits"], unfollowed := true, recurses := true, apart := false }
def FnExactCountOfZerosSaid : Prop := fnExactCountOfZerosRow.holds Try.pinned (OpenSpec.ofChange fnExactCountOfZerosSpec)

/-- ITS FALSE NEIGHBOUR: 'it returns false'. Refute it at one input. -/
def fnExactCountOfZerosWrong : ChangeSpec := { name := "fnExactCountOfZeros", fn := fun _ => fun
  | [d] => { results := [.lit (.bool false)], args := [d] }
  | _ => none }
def FnExactCountOfZerosWrongFalsely : Prop := fnExactCountOfZerosRow.holds Try.pinned (OpenSpec.ofChange fnExactCountOfZerosWrong)

/-- 'laws.FnExactPutFinger': WHATEVER THE INPUT: true; the input reads as it did. -/
def fnExactPutFingerSpec : ChangeSpec := { name := "fnExactPutFinger", fn := fun _ => fun
  | [d1, d2] => { results := [.lit (.bool true)], args := [d1, d2] }
  | _ => none }
def fnExactPutFingerRow : OpenClaim := { program := "ytnpbccgnhmpalaa", sum := "f2b6da355788896f92efd25c1dedecf464418babeb8b55248c2fab8ffa9639ca", func := "loop.example/g01347/laws.FnExactPutFinger", spec := "fnExactPutFinger", unfollowed := true, recurses := true, apart := false }
def FnExactPutFingerSaid : Prop := fnExactPutFingerRow.holds Try.pinned (OpenSpec.ofChange fnExactPutFingerSpec)

/-- ITS FALSE NEIGHBOUR: 'it returns false'. Refute it at one input. -/
def fnExactPutFingerWrong : ChangeSpec := { name := "fnExactPutFinger", fn := fun _ => fun
  | [d1, d2] => { results := [.lit (.bool false)], args := [d1, d2] }
  | _ => none }
def FnExactPutFingerWrongFalsely : Prop := fnExactPutFingerRow.holds Try.pinned (OpenSpec.ofChange fnExactPutFingerWrong)

/-- 'laws.FnSieves': WHATEVER THE INPUT: true; the input reads as it did. -/
def fnSievesSpec : ChangeSpec := { name := "fnSieves", fn := fun _ => fun
  | [d1, d2] => { results := [.lit (.bool true)], args := [d1, d2] }
  | _ => none }
def fnSievesRow : OpenClaim := { program := "ytnpbccgnhmpalaa", sum := "f2b6da355788896f92efd25c1dedecf464418babeb8b55248c2fab8ffa9639ca", func := "loop.example/g01347/laws.FnSieves", spec := "fnSieves", inPlace := ["math.Float64frombits"], unfollowed := true, recurses := true, apart := false }
def FnSievesSaid : Prop := fnSievesRow.holds Try.pinned (OpenSpec.ofChange fnSievesSpec)

/-- ITS FALSE NEIGHBOUR: 'it returns false'. Refute it at one input. -/
def fnSievesWrong : ChangeSpec := { name := "fnSieves", fn := fun _ => fun
  | [d1, d2] => { results := [.lit (.bool false)], args := [d1, d2] }
  | _ => none }
def FnSievesWrongFalsely : Prop := fnSievesRow.holds Try.pinned (OpenSpec.ofChange fnSievesWrong)

/-- 'laws.FnExactShrinkClusters': WHATEVER THE INPUT: true; the input reads as it did. -/
def fnExactShrinkClustersSpec : ChangeSpec := { name := "fnExactShrinkClusters", fn := fun _ => fun
  | [d] => { results := [.lit (.bool true)], args := [d] }
  | _ => none }
def fnExactShrinkClustersRow : OpenClaim := { program := "ytnpbccgnhmpalaa", sum := "f2b6da355788896f92efd25c1dedecf464418babeb8b55248c2fab8ffa9639ca", func := "loop.example/g01347/laws.FnExactShrinkClusters", spec := "fnExactShrinkClusters", unfollowed := true, recurses := true, apart := false }
def FnExactShrinkClustersSaid : Prop := fnExactShrinkClustersRow.holds Try.pinned (OpenSpec.ofChange fnExactShrinkClustersSpec)

/-- ITS FALSE NEIGHBOUR: 'it returns false'. Refute it at one input. -/
def fnExactShrinkClustersWrong : ChangeSpec := { name := "fnExactShrinkClusters", fn := fun _ => fun
  | [d] => { results := [.lit (.bool false)], args := [d] }
  | _ => none }
def FnExactShrinkClustersWrongFalsely : Prop := fnExactShrinkClustersRow.holds Try.pinned (OpenSpec.ofChange fnExactShrinkClustersWrong)

/-- 'laws.FnExactSqueezeSummary': WHATEVER THE INPUT: true; the input reads as it did. -/
def fnExactSqueezeSummarySpec : ChangeSpec := { name := "fnExactSqueezeSummary", fn := fun _ => fun
  | [d] => { results := [.lit (.bool true)], args := [d] }
  | _ => none }
def fnExactSqueezeSummaryRow : OpenClaim := { program := "ytnpbccgnhmpalaa", sum := "f2b6da355788896f92efd25c1dedecf464418babeb8b55248c2fab8ffa9639ca", func := "loop.example/g01347/laws.FnExactSqueezeSummary", spec := "fnExactSqueezeSummary", unfollowed := true, recurses := true, apart := false }
def FnExactSqueezeSummarySaid : Prop := fnExactSqueezeSummaryRow.holds Try.pinned (OpenSpec.ofChange fnExactSqueezeSummarySpec)

/-- ITS FALSE NEIGHBOUR: 'it returns false'. Refute it at one input. -/
def fnExactSqueezeSummaryWrong : ChangeSpec := { name := "fnExactSqueezeSummary", fn := fun _ => fun
  | [d] => { results := [.lit (.bool false)], args := [d] }
  | _ => none }
def FnExactSqueezeSummaryWrongFalsely : Prop := fnExactSqueezeSummaryRow.holds Try.pinned (OpenSpec.ofChange fnExactSqueezeSummaryWrong)

/-- 'laws.FnLists': WHATEVER THE INPUT: true; the input reads as it did. -/
def fnListsSpec : ChangeSpec := { name := "fnLists", fn := fun _ => fun
  | [d1, d2] => { results := [.lit (.bool true)], args := [d1, d2] }
  | _ => none }
def fnListsRow : OpenClaim := { program := "ytnpbccgnhmpalaa", sum := "f2b6da355788896f92efd25c1dedecf464418babeb8b55248c2fab8ffa9639ca", func := "loop.example/g01347/laws.FnLists", spec := "fnLists", inPlace := ["math.archCeil", "math.archFloor", "math.Float64bits", "math.Float64frombits", "math.archTrunc"], unfollowed := true, recurses := true, apart := false }
def FnListsSaid : Prop := fnListsRow.holds Try.pinned (OpenSpec.ofChange fnListsSpec)

/-- ITS FALSE NEIGHBOUR: 'it returns false'. Refute it at one input. -/
def fnListsWrong : ChangeSpec := { name := "fnLists", fn := fun _ => fun
  | [d1, d2] => { results := [.lit (.bool false)], args := [d1, d2] }
  | _ => none }
def FnListsWrongFalsely : Prop := fnListsRow.holds Try.pinned (OpenSpec.ofChange fnListsWrong)

/-- 'laws.FnExactSummaryQuantile': WHATEVER THE INPUT: true; the input reads as it did. -/
def fnExactSummaryQuantileSpec : ChangeSpec := { name := "fnExactSummaryQuantile", fn := fun _ => fun
  | [d1, d2] => { results := [.lit (.bool true)], args := [d1, d2] }
  | _ => none }
def fnExactSummaryQuantileRow : OpenClaim := { program := "ytnpbccgnhmpalaa", sum := "f2b6da355788896f92efd25c1dedecf464418babeb8b55248c2fab8ffa9639ca", func := "loop.example/g01347/laws.FnExactSummaryQuantile", spec := "fnExactSummaryQuantile", inPlace := ["math.archCeil", "math.archFloor", "math.Float64bits", "math.Float64frombits", "math.archTrunc"], unfollowed := true, recurses := true, apart := false }
def FnExactSummaryQuantileSaid : Prop := fnExactSummaryQuantileRow.holds Try.pinned (OpenSpec.ofChange fnExactSummaryQuantileSpec)

/-- ITS FALSE NEIGHBOUR: 'it returns false'. Refute it at one input. -/
def fnExactSummaryQuantileWrong : ChangeSpec := { name := "fnExactSummaryQuantile", fn := fun _ => fun
  | [d1, d2] => { results := [.lit (.bool false)], args := [d1, d2] }
  | _ => none }
def FnExactSummaryQuantileWrongFalsely : Prop := fnExactSummaryQuantileRow.holds Try.pinned (OpenSpec.ofChange fnExactSummaryQuantileWrong)

/-- 'laws.FnExactQuantileIn': WHATEVER THE INPUT: true; the input reads as it did. -/
def fnExactQuantileInSpec : ChangeSpec := { name := "fnExactQuantileIn", fn := fun _ => fun
  | [d1, d2] => { results := [.lit (.bool true)], args := [d1, d2] }
  | _ => none }
def fnExactQuantileInRow : OpenClaim := { program := "ytnpbccgnhmpalaa", sum := "f2b6da355788896f92efd25c1dedecf464418babeb8b55248c2fab8ffa9639ca", func := "loop.example/g01347/laws.FnExactQuantileIn", spec := "fnExactQuantileIn", inPlace := ["math.archCeil", "math.archFloor", "math.Float64bits", "math.Float64frombits", "math.archTrunc"], unfollowed := true, recurses := true, apart := false }
def FnExactQuantileInSaid : Prop := fnExactQuantileInRow.holds Try.pinned (OpenSpec.ofChange fnExactQuantileInSpec)

/-- ITS FALSE NEIGHBOUR: 'it returns false'. Refute it at one input. -/
def fnExactQuantileInWrong : ChangeSpec := { name := "fnExactQuantileIn", fn := fun _ => fun
  | [d1, d2] => { results := [.lit (.bool false)], args := [d1, d2] }
  | _ => none }
def FnExactQuantileInWrongFalsely : Prop := fnExactQuantileInRow.holds Try.pinned (OpenSpec.ofChange fnExactQuantileInWrong)

/-- 'laws.FnExactMergeSummaries': WHATEVER THE INPUT: true; the input reads as it did. -/
def fnExactMergeSummariesSpec : ChangeSpec := { name := "fnExactMergeSummaries", fn := fun _ => fun
  | [d1, d2] => { results := [.lit (.bool true)], args := [d1, d2] }
  | _ => none }
def fnExactMergeSummariesRow : OpenClaim := { program := "ytnpbccgnhmpalaa", sum := "f2b6da355788896f92efd25c1dedecf464418babeb8b55248c2fab8ffa9639ca", func := "loop.example/g01347/laws.FnExactMergeSummaries", spec := "fnExactMergeSummaries", unfollowed := true, recurses := true, apart := false }
def FnExactMergeSummariesSaid : Prop := fnExactMergeSummariesRow.holds Try.pinned (OpenSpec.ofChange fnExactMergeSummariesSpec)

/-- ITS FALSE NEIGHBOUR: 'it returns false'. Refute it at one input. -/
def fnExactMergeSummariesWrong : ChangeSpec := { name := "fnExactMergeSummaries", fn := fun _ => fun
  | [d1, d2] => { results := [.lit (.bool false)], args := [d1, d2] }
  | _ => none }
def FnExactMergeSummariesWrongFalsely : Prop := fnExactMergeSummariesRow.holds Try.pinned (OpenSpec.ofChange fnExactMergeSummariesWrong)

/-- 'laws.FnExactPutLevels': WHATEVER THE INPUT: true; the input reads as it did. -/
def fnExactPutLevelsSpec : ChangeSpec := { name := "fnExactPutLevels", fn := fun _ => fun
  | [d1, d2] => { results := [.lit (.bool true)], args := [d1, d2] }
  | _ => none }
def fnExactPutLevelsRow : OpenClaim := { program := "ytnpbccgnhmpalaa", sum := "f2b6da355788896f92efd25c1dedecf464418babeb8b55248c2fab8ffa9639ca", func := "loop.example/g01347/laws.FnExactPutLevels", spec := "fnExactPutLevels", unfollowed := true, recurses := true, apart := false }
def FnExactPutLevelsSaid : Prop := fnExactPutLevelsRow.holds Try.pinned (OpenSpec.ofChange fnExactPutLevelsSpec)

/-- ITS FALSE NEIGHBOUR: 'it returns false'. Refute it at one input. -/
def fnExactPutLevelsWrong : ChangeSpec := { name := "fnExactPutLevels", fn := fun _ => fun
  | [d1, d2] => { results := [.lit (.bool false)], args := [d1, d2] }
  | _ => none }
def FnExactPutLevelsWrongFalsely : Prop := fnExactPutLevelsRow.holds Try.pinned (OpenSpec.ofChange fnExactPutLevelsWrong)

/-- 'laws.FnExactMergeLevels': WHATEVER THE INPUT: true; the input reads as it did. -/
def fnExactMergeLevelsSpec : ChangeSpec := { name := "fnExactMergeLevels", fn := fun _ => fun
  | [d1, d2] => { results := [.lit (.bool true)], args := [d1, d2] }
  | _ => none }
def fnExactMergeLevelsRow : OpenClaim := { program := "ytnpbccgnhmpalaa", sum := "f2b6da355788896f92efd25c1dedecf464418babeb8b55248c2fab8ffa9639ca", func := "loop.example/g01347/laws.FnExactMergeLevels", spec := "fnExactMergeLevels", unfollowed := true, recurses := true, apart := false }
def FnExactMergeLevelsSaid : Prop := fnExactMergeLevelsRow.holds Try.pinned (OpenSpec.ofChange fnExactMergeLevelsSpec)

/-- ITS FALSE NEIGHBOUR: 'it returns false'. Refute it at one input. -/
def fnExactMergeLevelsWrong : ChangeSpec := { name := "fnExactMergeLevels", fn := fun _ => fun
  | [d1, d2] => { results := [.lit (.bool false)], args := [d1, d2] }
  | _ => none }
def FnExactMergeLevelsWrongFalsely : Prop := fnExactMergeLevelsRow.holds Try.pinned (OpenSpec.ofChange fnExactMergeLevelsWrong)

/- THE SECOND FORM. 'bulk': how many values and letters a reading holds, each counted each time it is reached (what is shared counts as often as it is met; a slice's spare places count too). A statement '..UptoSaid' is the law's where the arguments, and the package variables that the reading takes, are together of bulk at most 1048576: NARROWER than '..Said'. Prove '..Said' where nothing that the law and all that it calls make is longer than what came in: it says more and counts as full. Else prove '..UptoSaid'. A law counts once. -/
mutual
def uptoBulk {H : Type} : DataW H → Nat
  | .lit (.string bytes) => bytes.length + 1
  | .lit _ => 1
  | .nil => 1
  | .ptr d => uptoBulk d + 1
  | .slice elems spare => uptoBulkAll elems + uptoBulkAll spare + 1
  | .agg parts => uptoBulkAll parts + 1
  | .iface _ d => uptoBulk d + 1
  | .map entries => uptoBulkEntries entries + 1
  | .held _ => 1
def uptoBulkAll {H : Type} : List (DataW H) → Nat
  | [] => 0
  | d :: r => uptoBulk d + uptoBulkAll r
def uptoBulkEntries {H : Type} : List (Lit × DataW H) → Nat
  | [] => 0
  | x :: r => uptoBulkEntry x + uptoBulkEntries r
def uptoBulkEntry {H : Type} : Lit × DataW H → Nat
  | (.string bytes, d) => bytes.length + uptoBulk d + 1
  | (_, d) => uptoBulk d + 1
 end
def uptoSmall : (H : Type) → List (DataW H) → Bool := fun _ ds => decide (uptoBulkAll ds ≤ 1048576)
def OpenSpec.upto (s : _root_.Go.ChangeSpec) : _root_.Go.OpenSpec := { _root_.Go.OpenSpec.ofChange s with cond := some uptoSmall }

/-- 'laws.FnExactSieveOf', WHERE WHAT IT READS IS OF BULK AT MOST 1048576: true; the input reads as it did. -/
def fnExactSieveOfUptoRow : OpenClaim := { program := "ytnpbccgnhmpalaa", sum := "f2b6da355788896f92efd25c1dedecf464418babeb8b55248c2fab8ffa9639ca", func := "loop.example/g01347/laws.FnExactSieveOf", spec := "fnExactSieveOf", unfollowed := true, recurses := true, apart := false, narrowed := true }
def FnExactSieveOfUptoSaid : Prop := fnExactSieveOfUptoRow.holds Try.pinned (OpenSpec.upto fnExactSieveOfSpec)

/-- 'laws.FnExactCountOfZeros', WHERE WHAT IT READS IS OF BULK AT MOST 1048576: true; the input reads as it did. -/
def fnExactCountOfZerosUptoRow : OpenClaim := { program := "ytnpbccgnhmpalaa", sum := "f2b6da355788896f92efd25c1dedecf464418babeb8b55248c2fab8ffa9639ca", func := "loop.example/g01347/laws.FnExactCountOfZeros", spec := "fnExactCountOfZeros", inPlace := ["math.Float64frombits", "math.Float64bits"], unfollowed := true, recurses := true, apart := false, narrowed := true }
def FnExactCountOfZerosUptoSaid : Prop := fnExactCountOfZerosUptoRow.holds Try.pinned (OpenSpec.upto fnExactCountOfZerosSpec)

/-- 'laws.FnExactPutFinger', WHERE WHAT IT READS IS OF BULK AT MOST 1048576: true; the input reads as it did. -/
def fnExactPutFingerUptoRow : OpenClaim := { program := "ytnpbccgnhmpalaa", sum := "f2b6da355788896f92efd25c1dedecf464418babeb8b55248c2fab8ffa9639ca", func := "loop.example/g01347/laws.FnExactPutFinger", spec := "fnExactPutFinger", unfollowed := true, recurses := true, apart := false, narrowed := true }
def FnExactPutFingerUptoSaid : Prop := fnExactPutFingerUptoRow.holds Try.pinned (OpenSpec.upto fnExactPutFingerSpec)

/-- 'laws.FnSieves', WHERE WHAT IT READS IS OF BULK AT MOST 1048576: true; the input reads as it did. -/
def fnSievesUptoRow : OpenClaim := { program := "ytnpbccgnhmpalaa", sum := "f2b6da355788896f92efd25c1dedecf464418babeb8b55248c2fab8ffa9639ca", func := "loop.example/g01347/laws.FnSieves", spec := "fnSieves", inPlace := ["math.Float64frombits"], unfollowed := true, recurses := true, apart := false, narrowed := true }
def FnSievesUptoSaid : Prop := fnSievesUptoRow.holds Try.pinned (OpenSpec.upto fnSievesSpec)

/-- 'laws.FnExactShrinkClusters', WHERE WHAT IT READS IS OF BULK AT MOST 1048576: true; the input reads as it did. -/
def fnExactShrinkClustersUptoRow : OpenClaim := { program := "ytnpbccgnhmpalaa", sum := "f2b6da355788896f92efd25c1dedecf464418babeb8b55248c2fab8ffa9639ca", func := "loop.example/g01347/laws.FnExactShrinkClusters", spec := "fnExactShrinkClusters", unfollowed := true, recurses := true, apart := false, narrowed := true }
def FnExactShrinkClustersUptoSaid : Prop := fnExactShrinkClustersUptoRow.holds Try.pinned (OpenSpec.upto fnExactShrinkClustersSpec)

/-- 'laws.FnExactSqueezeSummary', WHERE WHAT IT READS IS OF BULK AT MOST 1048576: true; the input reads as it did. -/
def fnExactSqueezeSummaryUptoRow : OpenClaim := { program := "ytnpbccgnhmpalaa", sum := "f2b6da355788896f92efd25c1dedecf464418babeb8b55248c2fab8ffa9639ca", func := "loop.example/g01347/laws.FnExactSqueezeSummary", spec := "fnExactSqueezeSummary", unfollowed := true, recurses := true, apart := false, narrowed := true }
def FnExactSqueezeSummaryUptoSaid : Prop := fnExactSqueezeSummaryUptoRow.holds Try.pinned (OpenSpec.upto fnExactSqueezeSummarySpec)

/-- 'laws.FnLists', WHERE WHAT IT READS IS OF BULK AT MOST 1048576: true; the input reads as it did. -/
def fnListsUptoRow : OpenClaim := { program := "ytnpbccgnhmpalaa", sum := "f2b6da355788896f92efd25c1dedecf464418babeb8b55248c2fab8ffa9639ca", func := "loop.example/g01347/laws.FnLists", spec := "fnLists", inPlace := ["math.archCeil", "math.archFloor", "math.Float64bits", "math.Float64frombits", "math.archTrunc"], unfollowed := true, recurses := true, apart := false, narrowed := true }
def FnListsUptoSaid : Prop := fnListsUptoRow.holds Try.pinned (OpenSpec.upto fnListsSpec)

/-- 'laws.FnExactSummaryQuantile', WHERE WHAT IT READS IS OF BULK AT MOST 1048576: true; the input reads as it did. -/
def fnExactSummaryQuantileUptoRow : OpenClaim := { program := "ytnpbccgnhmpalaa", sum := "f2b6da355788896f92efd25c1dedecf464418babeb8b55248c2fab8ffa9639ca", func := "loop.example/g01347/laws.FnExactSummaryQuantile", spec := "fnExactSummaryQuantile", inPlace := ["math.archCeil", "math.archFloor", "math.Float64bits", "math.Float64frombits", "math.archTrunc"], unfollowed := true, recurses := true, apart := false, narrowed := true }
def FnExactSummaryQuantileUptoSaid : Prop := fnExactSummaryQuantileUptoRow.holds Try.pinned (OpenSpec.upto fnExactSummaryQuantileSpec)

/-- 'laws.FnExactQuantileIn', WHERE WHAT IT READS IS OF BULK AT MOST 1048576: true; the input reads as it did. -/
def fnExactQuantileInUptoRow : OpenClaim := { program := "ytnpbccgnhmpalaa", sum := "f2b6da355788896f92efd25c1dedecf464418babeb8b55248c2fab8ffa9639ca", func := "loop.example/g01347/laws.FnExactQuantileIn", spec := "fnExactQuantileIn", inPlace := ["math.archCeil", "math.archFloor", "math.Float64bits", "math.Float64frombits", "math.archTrunc"], unfollowed := true, recurses := true, apart := false, narrowed := true }
def FnExactQuantileInUptoSaid : Prop := fnExactQuantileInUptoRow.holds Try.pinned (OpenSpec.upto fnExactQuantileInSpec)

/-- 'laws.FnExactMergeSummaries', WHERE WHAT IT READS IS OF BULK AT MOST 1048576: true; the input reads as it did. -/
def fnExactMergeSummariesUptoRow : OpenClaim := { program := "ytnpbccgnhmpalaa", sum := "f2b6da355788896f92efd25c1dedecf464418babeb8b55248c2fab8ffa9639ca", func := "loop.example/g01347/laws.FnExactMergeSummaries", spec := "fnExactMergeSummaries", unfollowed := true, recurses := true, apart := false, narrowed := true }
def FnExactMergeSummariesUptoSaid : Prop := fnExactMergeSummariesUptoRow.holds Try.pinned (OpenSpec.upto fnExactMergeSummariesSpec)

/-- 'laws.FnExactPutLevels', WHERE WHAT IT READS IS OF BULK AT MOST 1048576: true; the input reads as it did. -/
def fnExactPutLevelsUptoRow : OpenClaim := { program := "ytnpbccgnhmpalaa", sum := "f2b6da355788896f92efd25c1dedecf464418babeb8b55248c2fab8ffa9639ca", func := "loop.example/g01347/laws.FnExactPutLevels", spec := "fnExactPutLevels", unfollowed := true, recurses := true, apart := false, narrowed := true }
def FnExactPutLevelsUptoSaid : Prop := fnExactPutLevelsUptoRow.holds Try.pinned (OpenSpec.upto fnExactPutLevelsSpec)

/-- 'laws.FnExactMergeLevels', WHERE WHAT IT READS IS OF BULK AT MOST 1048576: true; the input reads as it did. -/
def fnExactMergeLevelsUptoRow : OpenClaim := { program := "ytnpbccgnhmpalaa", sum := "f2b6da355788896f92efd25c1dedecf464418babeb8b55248c2fab8ffa9639ca", func := "loop.example/g01347/laws.FnExactMergeLevels", spec := "fnExactMergeLevels", unfollowed := true, recurses := true, apart := false, narrowed := true }
def FnExactMergeLevelsUptoSaid : Prop := fnExactMergeLevelsUptoRow.holds Try.pinned (OpenSpec.upto fnExactMergeLevelsSpec)

end Rows
end Go.Proofs.Ytnpbccgnhmpalaa
