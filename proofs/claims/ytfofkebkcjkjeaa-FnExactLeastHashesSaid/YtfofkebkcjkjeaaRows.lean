/-
  No cell of these rows narrows 'for every input' (looked for: loops, veiled, ifaces, maps, wideKeys, modest, calm, conditions, laid).
  DERIVED. THE GIVEN ROWS OF THIS SEAT. 11 by the template 'for every input the law returns true; each argument reads behind the call as it read before'; 0 by the template 'total and deterministic' (their statements: YtfofkebkcjkjeaaTotals.lean).
  GIVEN WITH THE SEED: the statements are not yours to turn. If you find one false, say at which input.
  Laid BY PROGRAM, IN A SANDBOX (cutbox-rows.mjs): the forced cells as the released guide's own fill.sh prints them over the translation 980a14b644b03201… (all of the seat's roots in one cut). By AI agents, Wed Nov 11 2026. No macro, syntax, notation, axiom, sorry.
-/
import Derived.Test.YtfofkebkcjkjeaaChecked
import GoSem.Claim
import GoSem.ClaimJoined
import GoSem.ClaimMapViews
import Derived.JoinedTies
import Derived.KernelRfl
namespace Go.Proofs.Ytfofkebkcjkjeaa
/- THE CELL 'sum', in the pinned program and in every row, IS THE sha256 OF THE DUMP (.gsa) THAT YtfofkebkcjkjeaaProg.lean LOADS. Nothing in Lean hashes anything: it is a label: what it is worth is what the hold of that sum in a sandbox is worth. -/
noncomputable def Try.pinned : Pinned := { name := "ytfofkebkcjkjeaa", sum := "980a14b644b0320174779623908b10030dc8f0656462bbf3c2fee165ab277b1f", checked := Try.checked }
namespace Rows
def none {H : Type} : Left H := { results := [], args := [] }

/-- 'laws.FnExactTopsOf': WHATEVER THE INPUT: true; the input reads as it did. -/
def fnExactTopsOfSpec : ChangeSpec := { name := "fnExactTopsOf", fn := fun _ => fun
  | [d1, d2] => { results := [.lit (.bool true)], args := [d1, d2] }
  | _ => none }
def fnExactTopsOfRow : OpenClaim := { program := "ytfofkebkcjkjeaa", sum := "980a14b644b0320174779623908b10030dc8f0656462bbf3c2fee165ab277b1f", func := "loop.example/g01347/laws.FnExactTopsOf", spec := "fnExactTopsOf", unfollowed := true, recurses := true, leaving := true, apart := false }
def FnExactTopsOfSaid : Prop := fnExactTopsOfRow.holds Try.pinned (OpenSpec.ofChange fnExactTopsOfSpec)

/-- ITS FALSE NEIGHBOUR: 'it returns false'. Refute it at one input. -/
def fnExactTopsOfWrong : ChangeSpec := { name := "fnExactTopsOf", fn := fun _ => fun
  | [d1, d2] => { results := [.lit (.bool false)], args := [d1, d2] }
  | _ => none }
def FnExactTopsOfWrongFalsely : Prop := fnExactTopsOfRow.holds Try.pinned (OpenSpec.ofChange fnExactTopsOfWrong)

/-- 'laws.FnExactPutTop': WHATEVER THE INPUT: true; the input reads as it did. -/
def fnExactPutTopSpec : ChangeSpec := { name := "fnExactPutTop", fn := fun _ => fun
  | [d1, d2] => { results := [.lit (.bool true)], args := [d1, d2] }
  | _ => none }
def fnExactPutTopRow : OpenClaim := { program := "ytfofkebkcjkjeaa", sum := "980a14b644b0320174779623908b10030dc8f0656462bbf3c2fee165ab277b1f", func := "loop.example/g01347/laws.FnExactPutTop", spec := "fnExactPutTop", unfollowed := true, recurses := true, leaving := true, apart := false }
def FnExactPutTopSaid : Prop := fnExactPutTopRow.holds Try.pinned (OpenSpec.ofChange fnExactPutTopSpec)

/-- ITS FALSE NEIGHBOUR: 'it returns false'. Refute it at one input. -/
def fnExactPutTopWrong : ChangeSpec := { name := "fnExactPutTop", fn := fun _ => fun
  | [d1, d2] => { results := [.lit (.bool false)], args := [d1, d2] }
  | _ => none }
def FnExactPutTopWrongFalsely : Prop := fnExactPutTopRow.holds Try.pinned (OpenSpec.ofChange fnExactPutTopWrong)

/-- 'laws.FnExactBestCuts': WHATEVER THE INPUT: true; the input reads as it did. -/
def fnExactBestCutsSpec : ChangeSpec := { name := "fnExactBestCuts", fn := fun _ => fun
  | [d1, d2] => { results := [.lit (.bool true)], args := [d1, d2] }
  | _ => none }
def fnExactBestCutsRow : OpenClaim := { program := "ytfofkebkcjkjeaa", sum := "980a14b644b0320174779623908b10030dc8f0656462bbf3c2fee165ab277b1f", func := "loop.example/g01347/laws.FnExactBestCuts", spec := "fnExactBestCuts", unfollowed := true, recurses := true, leaving := true, apart := false }
def FnExactBestCutsSaid : Prop := fnExactBestCutsRow.holds Try.pinned (OpenSpec.ofChange fnExactBestCutsSpec)

/-- ITS FALSE NEIGHBOUR: 'it returns false'. Refute it at one input. -/
def fnExactBestCutsWrong : ChangeSpec := { name := "fnExactBestCuts", fn := fun _ => fun
  | [d1, d2] => { results := [.lit (.bool false)], args := [d1, d2] }
  | _ => none }
def FnExactBestCutsWrongFalsely : Prop := fnExactBestCutsRow.holds Try.pinned (OpenSpec.ofChange fnExactBestCutsWrong)

/-- 'laws.FnExactLeastHashes': WHATEVER THE INPUT: true; the input reads as it did. -/
def fnExactLeastHashesSpec : ChangeSpec := { name := "fnExactLeastHashes", fn := fun _ => fun
  | [d1, d2, d3] => { results := [.lit (.bool true)], args := [d1, d2, d3] }
  | _ => none }
def fnExactLeastHashesRow : OpenClaim := { program := "ytfofkebkcjkjeaa", sum := "980a14b644b0320174779623908b10030dc8f0656462bbf3c2fee165ab277b1f", func := "loop.example/g01347/laws.FnExactLeastHashes", spec := "fnExactLeastHashes", unfollowed := true, recurses := true, leaving := true, apart := false }
def FnExactLeastHashesSaid : Prop := fnExactLeastHashesRow.holds Try.pinned (OpenSpec.ofChange fnExactLeastHashesSpec)

/-- ITS FALSE NEIGHBOUR: 'it returns false'. Refute it at one input. -/
def fnExactLeastHashesWrong : ChangeSpec := { name := "fnExactLeastHashes", fn := fun _ => fun
  | [d1, d2, d3] => { results := [.lit (.bool false)], args := [d1, d2, d3] }
  | _ => none }
def FnExactLeastHashesWrongFalsely : Prop := fnExactLeastHashesRow.holds Try.pinned (OpenSpec.ofChange fnExactLeastHashesWrong)

/-- 'laws.FnExactJoinLeast': WHATEVER THE INPUT: true; the input reads as it did. -/
def fnExactJoinLeastSpec : ChangeSpec := { name := "fnExactJoinLeast", fn := fun _ => fun
  | [d1, d2, d3] => { results := [.lit (.bool true)], args := [d1, d2, d3] }
  | _ => none }
def fnExactJoinLeastRow : OpenClaim := { program := "ytfofkebkcjkjeaa", sum := "980a14b644b0320174779623908b10030dc8f0656462bbf3c2fee165ab277b1f", func := "loop.example/g01347/laws.FnExactJoinLeast", spec := "fnExactJoinLeast", unfollowed := true, recurses := true, leaving := true, apart := false }
def FnExactJoinLeastSaid : Prop := fnExactJoinLeastRow.holds Try.pinned (OpenSpec.ofChange fnExactJoinLeastSpec)

/-- ITS FALSE NEIGHBOUR: 'it returns false'. Refute it at one input. -/
def fnExactJoinLeastWrong : ChangeSpec := { name := "fnExactJoinLeast", fn := fun _ => fun
  | [d1, d2, d3] => { results := [.lit (.bool false)], args := [d1, d2, d3] }
  | _ => none }
def FnExactJoinLeastWrongFalsely : Prop := fnExactJoinLeastRow.holds Try.pinned (OpenSpec.ofChange fnExactJoinLeastWrong)

/-- 'laws.FnExactMeetOfLeast': WHATEVER THE INPUT: true; the input reads as it did. -/
def fnExactMeetOfLeastSpec : ChangeSpec := { name := "fnExactMeetOfLeast", fn := fun _ => fun
  | [d1, d2, d3] => { results := [.lit (.bool true)], args := [d1, d2, d3] }
  | _ => none }
def fnExactMeetOfLeastRow : OpenClaim := { program := "ytfofkebkcjkjeaa", sum := "980a14b644b0320174779623908b10030dc8f0656462bbf3c2fee165ab277b1f", func := "loop.example/g01347/laws.FnExactMeetOfLeast", spec := "fnExactMeetOfLeast", unfollowed := true, recurses := true, leaving := true, apart := false }
def FnExactMeetOfLeastSaid : Prop := fnExactMeetOfLeastRow.holds Try.pinned (OpenSpec.ofChange fnExactMeetOfLeastSpec)

/-- ITS FALSE NEIGHBOUR: 'it returns false'. Refute it at one input. -/
def fnExactMeetOfLeastWrong : ChangeSpec := { name := "fnExactMeetOfLeast", fn := fun _ => fun
  | [d1, d2, d3] => { results := [.lit (.bool false)], args := [d1, d2, d3] }
  | _ => none }
def FnExactMeetOfLeastWrongFalsely : Prop := fnExactMeetOfLeastRow.holds Try.pinned (OpenSpec.ofChange fnExactMeetOfLeastWrong)

/-- 'laws.FnExactPutCluster': WHATEVER THE INPUT: true; the input reads as it did. -/
def fnExactPutClusterSpec : ChangeSpec := { name := "fnExactPutCluster", fn := fun _ => fun
  | [d1, d2] => { results := [.lit (.bool true)], args := [d1, d2] }
  | _ => none }
def fnExactPutClusterRow : OpenClaim := { program := "ytfofkebkcjkjeaa", sum := "980a14b644b0320174779623908b10030dc8f0656462bbf3c2fee165ab277b1f", func := "loop.example/g01347/laws.FnExactPutCluster", spec := "fnExactPutCluster", inPlace := ["slices.overlaps[float32]", "slices.overlaps[int64]"], unfollowed := true, recurses := true, leaving := true, apart := false }
def FnExactPutClusterSaid : Prop := fnExactPutClusterRow.holds Try.pinned (OpenSpec.ofChange fnExactPutClusterSpec)

/-- ITS FALSE NEIGHBOUR: 'it returns false'. Refute it at one input. -/
def fnExactPutClusterWrong : ChangeSpec := { name := "fnExactPutCluster", fn := fun _ => fun
  | [d1, d2] => { results := [.lit (.bool false)], args := [d1, d2] }
  | _ => none }
def FnExactPutClusterWrongFalsely : Prop := fnExactPutClusterRow.holds Try.pinned (OpenSpec.ofChange fnExactPutClusterWrong)

/-- 'laws.FnExactPutSummary': WHATEVER THE INPUT: true; the input reads as it did. -/
def fnExactPutSummarySpec : ChangeSpec := { name := "fnExactPutSummary", fn := fun _ => fun
  | [d1, d2] => { results := [.lit (.bool true)], args := [d1, d2] }
  | _ => none }
def fnExactPutSummaryRow : OpenClaim := { program := "ytfofkebkcjkjeaa", sum := "980a14b644b0320174779623908b10030dc8f0656462bbf3c2fee165ab277b1f", func := "loop.example/g01347/laws.FnExactPutSummary", spec := "fnExactPutSummary", inPlace := ["slices.overlaps[float32]", "slices.overlaps[int64]"], unfollowed := true, recurses := true, leaving := true, apart := false }
def FnExactPutSummarySaid : Prop := fnExactPutSummaryRow.holds Try.pinned (OpenSpec.ofChange fnExactPutSummarySpec)

/-- ITS FALSE NEIGHBOUR: 'it returns false'. Refute it at one input. -/
def fnExactPutSummaryWrong : ChangeSpec := { name := "fnExactPutSummary", fn := fun _ => fun
  | [d1, d2] => { results := [.lit (.bool false)], args := [d1, d2] }
  | _ => none }
def FnExactPutSummaryWrongFalsely : Prop := fnExactPutSummaryRow.holds Try.pinned (OpenSpec.ofChange fnExactPutSummaryWrong)

/-- 'laws.FnExactLevelsQuantile': WHATEVER THE INPUT: true; the input reads as it did. -/
def fnExactLevelsQuantileSpec : ChangeSpec := { name := "fnExactLevelsQuantile", fn := fun _ => fun
  | [d1, d2] => { results := [.lit (.bool true)], args := [d1, d2] }
  | _ => none }
def fnExactLevelsQuantileRow : OpenClaim := { program := "ytfofkebkcjkjeaa", sum := "980a14b644b0320174779623908b10030dc8f0656462bbf3c2fee165ab277b1f", func := "loop.example/g01347/laws.FnExactLevelsQuantile", spec := "fnExactLevelsQuantile", inPlace := ["math.archCeil", "math.archFloor", "math.Float64bits", "math.Float64frombits", "math.archTrunc"], unfollowed := true, recurses := true, leaving := true, apart := false }
def FnExactLevelsQuantileSaid : Prop := fnExactLevelsQuantileRow.holds Try.pinned (OpenSpec.ofChange fnExactLevelsQuantileSpec)

/-- ITS FALSE NEIGHBOUR: 'it returns false'. Refute it at one input. -/
def fnExactLevelsQuantileWrong : ChangeSpec := { name := "fnExactLevelsQuantile", fn := fun _ => fun
  | [d1, d2] => { results := [.lit (.bool false)], args := [d1, d2] }
  | _ => none }
def FnExactLevelsQuantileWrongFalsely : Prop := fnExactLevelsQuantileRow.holds Try.pinned (OpenSpec.ofChange fnExactLevelsQuantileWrong)

/-- 'laws.FnExactPeelCells': WHATEVER THE INPUT: true; the input reads as it did. -/
def fnExactPeelCellsSpec : ChangeSpec := { name := "fnExactPeelCells", fn := fun _ => fun
  | [d1, d2, d3] => { results := [.lit (.bool true)], args := [d1, d2, d3] }
  | _ => none }
def fnExactPeelCellsRow : OpenClaim := { program := "ytfofkebkcjkjeaa", sum := "980a14b644b0320174779623908b10030dc8f0656462bbf3c2fee165ab277b1f", func := "loop.example/g01347/laws.FnExactPeelCells", spec := "fnExactPeelCells", unfollowed := true, recurses := true, leaving := true, apart := false }
def FnExactPeelCellsSaid : Prop := fnExactPeelCellsRow.holds Try.pinned (OpenSpec.ofChange fnExactPeelCellsSpec)

/-- ITS FALSE NEIGHBOUR: 'it returns false'. Refute it at one input. -/
def fnExactPeelCellsWrong : ChangeSpec := { name := "fnExactPeelCells", fn := fun _ => fun
  | [d1, d2, d3] => { results := [.lit (.bool false)], args := [d1, d2, d3] }
  | _ => none }
def FnExactPeelCellsWrongFalsely : Prop := fnExactPeelCellsRow.holds Try.pinned (OpenSpec.ofChange fnExactPeelCellsWrong)

/-- 'laws.FnSummarySharedOfAll': WHATEVER THE INPUT: true; the input reads as it did. -/
def fnSummarySharedOfAllSpec : ChangeSpec := { name := "fnSummarySharedOfAll", fn := fun _ => fun
  | [d1, d2, d3, d4] => { results := [.lit (.bool true)], args := [d1, d2, d3, d4] }
  | _ => none }
def fnSummarySharedOfAllRow : OpenClaim := { program := "ytfofkebkcjkjeaa", sum := "980a14b644b0320174779623908b10030dc8f0656462bbf3c2fee165ab277b1f", func := "loop.example/g01347/laws.FnSummarySharedOfAll", spec := "fnSummarySharedOfAll", inPlace := ["slices.overlaps[float32]", "slices.overlaps[int64]", "(*sync.WaitGroup).Go", "(*sync.WaitGroup).Add", "internal/race.ReleaseMerge", "internal/race.Disable", "internal/race.Enable", "internal/synctest.IsInBubble", "internal/synctest.Associate[sync.WaitGroup]", "sync.fatal", "sync/atomic.OrUint64", "sync/atomic.AddUint64", "internal/race.Read", "sync/atomic.LoadUint64", "sync/atomic.StoreUint64", "internal/synctest.Disassociate[sync.WaitGroup]", "sync.runtime_Semrelease", "(*sync.WaitGroup).Go$1", "(*sync.WaitGroup).Go$1$1", "(*sync.WaitGroup).Done", "(*sync.WaitGroup).Wait", "internal/race.Acquire", "internal/synctest.IsAssociated[sync.WaitGroup]", "sync/atomic.CompareAndSwapUint64", "internal/race.Write", "sync.runtime_SemacquireWaitGroup", "math.Float32bits"], unfollowed := true, recurses := true, leaving := true, apart := false }
def FnSummarySharedOfAllSaid : Prop := fnSummarySharedOfAllRow.holds Try.pinned (OpenSpec.ofChange fnSummarySharedOfAllSpec)

/-- ITS FALSE NEIGHBOUR: 'it returns false'. Refute it at one input. -/
def fnSummarySharedOfAllWrong : ChangeSpec := { name := "fnSummarySharedOfAll", fn := fun _ => fun
  | [d1, d2, d3, d4] => { results := [.lit (.bool false)], args := [d1, d2, d3, d4] }
  | _ => none }
def FnSummarySharedOfAllWrongFalsely : Prop := fnSummarySharedOfAllRow.holds Try.pinned (OpenSpec.ofChange fnSummarySharedOfAllWrong)

/- THE SECOND FORM. 'bulk': how many values and letters a reading holds, each counted each time it is reached (what is shared counts as often as it is met; a slice's spare places count too). A statement '..UptoSaid' is the law's where the arguments, and the package variables that the reading takes, are together of bulk at most 1048576: NARROWER than '..Said'. Prove '..Said' where nothing that the law and all that it calls make is longer than what came in: it says more and counts as full. Else prove '..UptoSaid'. A law counts once. -/
mutual
def uptoBulk {H : Type} : DataW H → Nat
  | .lit (.string bytes) => bytes.length + 1
  | .lit _ => 1
  | .nil => 1
  | .ptr d => uptoBulk d + 1
  | .slice elems spare => uptoBulkAll elems + uptoBulkAll spare + 1
  | .agg parts => uptoBulkAll parts + 1
  | .iface _ d => uptoBulk d + 1
  | .map entries => uptoBulkEntries entries + 1
  | .held _ => 1
def uptoBulkAll {H : Type} : List (DataW H) → Nat
  | [] => 0
  | d :: r => uptoBulk d + uptoBulkAll r
def uptoBulkEntries {H : Type} : List (Lit × DataW H) → Nat
  | [] => 0
  | x :: r => uptoBulkEntry x + uptoBulkEntries r
def uptoBulkEntry {H : Type} : Lit × DataW H → Nat
  | (.string bytes, d) => bytes.length + uptoBulk d + 1
  | (_, d) => uptoBulk d + 1
 end
def uptoSmall : (H : Type) → List (DataW H) → Bool := fun _ ds => decide (uptoBulkAll ds ≤ 1048576)
def OpenSpec.upto (s : _root_.Go.ChangeSpec) : _root_.Go.OpenSpec := { _root_.Go.OpenSpec.ofChange s with cond := some uptoSmall }

/-- 'laws.FnExactTopsOf', WHERE WHAT IT READS IS OF BULK AT MOST 1048576: true; the input reads as it did. -/
def fnExactTopsOfUptoRow : OpenClaim := { program := "ytfofkebkcjkjeaa", sum := "980a14b644b0320174779623908b10030dc8f0656462bbf3c2fee165ab277b1f", func := "loop.example/g01347/laws.FnExactTopsOf", spec := "fnExactTopsOf", unfollowed := true, recurses := true, leaving := true, apart := false, narrowed := true }
def FnExactTopsOfUptoSaid : Prop := fnExactTopsOfUptoRow.holds Try.pinned (OpenSpec.upto fnExactTopsOfSpec)

/-- 'laws.FnExactPutTop', WHERE WHAT IT READS IS OF BULK AT MOST 1048576: true; the input reads as it did. -/
def fnExactPutTopUptoRow : OpenClaim := { program := "ytfofkebkcjkjeaa", sum := "980a14b644b0320174779623908b10030dc8f0656462bbf3c2fee165ab277b1f", func := "loop.example/g01347/laws.FnExactPutTop", spec := "fnExactPutTop", unfollowed := true, recurses := true, leaving := true, apart := false, narrowed := true }
def FnExactPutTopUptoSaid : Prop := fnExactPutTopUptoRow.holds Try.pinned (OpenSpec.upto fnExactPutTopSpec)

/-- 'laws.FnExactBestCuts', WHERE WHAT IT READS IS OF BULK AT MOST 1048576: true; the input reads as it did. -/
def fnExactBestCutsUptoRow : OpenClaim := { program := "ytfofkebkcjkjeaa", sum := "980a14b644b0320174779623908b10030dc8f0656462bbf3c2fee165ab277b1f", func := "loop.example/g01347/laws.FnExactBestCuts", spec := "fnExactBestCuts", unfollowed := true, recurses := true, leaving := true, apart := false, narrowed := true }
def FnExactBestCutsUptoSaid : Prop := fnExactBestCutsUptoRow.holds Try.pinned (OpenSpec.upto fnExactBestCutsSpec)

/-- 'laws.FnExactLeastHashes', WHERE WHAT IT READS IS OF BULK AT MOST 1048576: true; the input reads as it did. -/
def fnExactLeastHashesUptoRow : OpenClaim := { program := "ytfofkebkcjkjeaa", sum := "980a14b644b0320174779623908b10030dc8f0656462bbf3c2fee165ab277b1f", func := "loop.example/g01347/laws.FnExactLeastHashes", spec := "fnExactLeastHashes", unfollowed := true, recurses := true, leaving := true, apart := false, narrowed := true }
def FnExactLeastHashesUptoSaid : Prop := fnExactLeastHashesUptoRow.holds Try.pinned (OpenSpec.upto fnExactLeastHashesSpec)

/-- 'laws.FnExactJoinLeast', WHERE WHAT IT READS IS OF BULK AT MOST 1048576: true; the input reads as it did. -/
def fnExactJoinLeastUptoRow : OpenClaim := { program := "ytfofkebkcjkjeaa", sum := "980a14b644b0320174779623908b10030dc8f0656462bbf3c2fee165ab277b1f", func := "loop.example/g01347/laws.FnExactJoinLeast", spec := "fnExactJoinLeast", unfollowed := true, recurses := true, leaving := true, apart := false, narrowed := true }
def FnExactJoinLeastUptoSaid : Prop := fnExactJoinLeastUptoRow.holds Try.pinned (OpenSpec.upto fnExactJoinLeastSpec)

/-- 'laws.FnExactMeetOfLeast', WHERE WHAT IT READS IS OF BULK AT MOST 1048576: true; the input reads as it did. -/
def fnExactMeetOfLeastUptoRow : OpenClaim := { program := "ytfofkebkcjkjeaa", sum := "980a14b644b0320174779623908b10030dc8f0656462bbf3c2fee165ab277b1f", func := "loop.example/g01347/laws.FnExactMeetOfLeast", spec := "fnExactMeetOfLeast", unfollowed := true, recurses := true, leaving := true, apart := false, narrowed := true }
def FnExactMeetOfLeastUptoSaid : Prop := fnExactMeetOfLeastUptoRow.holds Try.pinned (OpenSpec.upto fnExactMeetOfLeastSpec)

/-- 'laws.FnExactPutCluster', WHERE WHAT IT READS IS OF BULK AT MOST 1048576: true; the input reads as it did. -/
def fnExactPutClusterUptoRow : OpenClaim := { program := "ytfofkebkcjkjeaa", sum := "980a14b644b0320174779623908b10030dc8f0656462bbf3c2fee165ab277b1f", func := "loop.example/g01347/laws.FnExactPutCluster", spec := "fnExactPutCluster", inPlace := ["slices.overlaps[float32]", "slices.overlaps[int64]"], unfollowed := true, recurses := true, leaving := true, apart := false, narrowed := true }
def FnExactPutClusterUptoSaid : Prop := fnExactPutClusterUptoRow.holds Try.pinned (OpenSpec.upto fnExactPutClusterSpec)

/-- 'laws.FnExactPutSummary', WHERE WHAT IT READS IS OF BULK AT MOST 1048576: true; the input reads as it did. -/
def fnExactPutSummaryUptoRow : OpenClaim := { program := "ytfofkebkcjkjeaa", sum := "980a14b644b0320174779623908b10030dc8f0656462bbf3c2fee165ab277b1f", func := "loop.example/g01347/laws.FnExactPutSummary", spec := "fnExactPutSummary", inPlace := ["slices.overlaps[float32]", "slices.overlaps[int64]"], unfollowed := true, recurses := true, leaving := true, apart := false, narrowed := true }
def FnExactPutSummaryUptoSaid : Prop := fnExactPutSummaryUptoRow.holds Try.pinned (OpenSpec.upto fnExactPutSummarySpec)

/-- 'laws.FnExactLevelsQuantile', WHERE WHAT IT READS IS OF BULK AT MOST 1048576: true; the input reads as it did. -/
def fnExactLevelsQuantileUptoRow : OpenClaim := { program := "ytfofkebkcjkjeaa", sum := "980a14b644b0320174779623908b10030dc8f0656462bbf3c2fee165ab277b1f", func := "loop.example/g01347/laws.FnExactLevelsQuantile", spec := "fnExactLevelsQuantile", inPlace := ["math.archCeil", "math.archFloor", "math.Float64bits", "math.Float64frombits", "math.archTrunc"], unfollowed := true, recurses := true, leaving := true, apart := false, narrowed := true }
def FnExactLevelsQuantileUptoSaid : Prop := fnExactLevelsQuantileUptoRow.holds Try.pinned (OpenSpec.upto fnExactLevelsQuantileSpec)

/-- 'laws.FnExactPeelCells', WHERE WHAT IT READS IS OF BULK AT MOST 1048576: true; the input reads as it did. -/
def fnExactPeelCellsUptoRow : OpenClaim := { program := "ytfofkebkcjkjeaa", sum := "980a14b644b0320174779623908b10030dc8f0656462bbf3c2fee165ab277b1f", func := "loop.example/g01347/laws.FnExactPeelCells", spec := "fnExactPeelCells", unfollowed := true, recurses := true, leaving := true, apart := false, narrowed := true }
def FnExactPeelCellsUptoSaid : Prop := fnExactPeelCellsUptoRow.holds Try.pinned (OpenSpec.upto fnExactPeelCellsSpec)

/-- 'laws.FnSummarySharedOfAll', WHERE WHAT IT READS IS OF BULK AT MOST 1048576: true; the input reads as it did. -/
def fnSummarySharedOfAllUptoRow : OpenClaim := { program := "ytfofkebkcjkjeaa", sum := "980a14b644b0320174779623908b10030dc8f0656462bbf3c2fee165ab277b1f", func := "loop.example/g01347/laws.FnSummarySharedOfAll", spec := "fnSummarySharedOfAll", inPlace := ["slices.overlaps[float32]", "slices.overlaps[int64]", "(*sync.WaitGroup).Go", "(*sync.WaitGroup).Add", "internal/race.ReleaseMerge", "internal/race.Disable", "internal/race.Enable", "internal/synctest.IsInBubble", "internal/synctest.Associate[sync.WaitGroup]", "sync.fatal", "sync/atomic.OrUint64", "sync/atomic.AddUint64", "internal/race.Read", "sync/atomic.LoadUint64", "sync/atomic.StoreUint64", "internal/synctest.Disassociate[sync.WaitGroup]", "sync.runtime_Semrelease", "(*sync.WaitGroup).Go$1", "(*sync.WaitGroup).Go$1$1", "(*sync.WaitGroup).Done", "(*sync.WaitGroup).Wait", "internal/race.Acquire", "internal/synctest.IsAssociated[sync.WaitGroup]", "sync/atomic.CompareAndSwapUint64", "internal/race.Write", "sync.runtime_SemacquireWaitGroup", "math.Float32bits"], unfollowed := true, recurses := true, leaving := true, apart := false, narrowed := true }
def FnSummarySharedOfAllUptoSaid : Prop := fnSummarySharedOfAllUptoRow.holds Try.pinned (OpenSpec.upto fnSummarySharedOfAllSpec)

end Rows
end Go.Proofs.Ytfofkebkcjkjeaa
