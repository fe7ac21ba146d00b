/-
  No cell of these rows narrows 'for every input' (looked for: loops, veiled, ifaces, maps, wideKeys, modest, calm, conditions, laid).
  DERIVED. THE GIVEN ROWS OF THIS SEAT. 11 by the template 'for every input the law returns true; each argument reads behind the call as it read before'; 0 by the template 'total and deterministic' (their statements: YtcjpfifajbjalaaTotals.lean).
  GIVEN WITH THE SEED: the statements are not yours to turn. If you find one false, say at which input.
  Laid BY PROGRAM, IN A SANDBOX (cutbox-rows.mjs): the forced cells as the released guide's own fill.sh prints them over the translation 3856217d32e2b4e6… (all of the seat's roots in one cut). By AI agents, Wed Nov 11 2026. No macro, syntax, notation, axiom, sorry.
-/
import Derived.Test.YtcjpfifajbjalaaChecked
import GoSem.Claim
import GoSem.ClaimJoined
import GoSem.ClaimMapViews
import Derived.JoinedTies
import Derived.KernelRfl
namespace Go.Proofs.Ytcjpfifajbjalaa
/- THE CELL 'sum', in the pinned program and in every row, IS THE sha256 OF THE DUMP (.gsa) THAT YtcjpfifajbjalaaProg.lean LOADS. Nothing in Lean hashes anything: it is a label: what it is worth is what the hold of that sum in a sandbox is worth. -/
noncomputable def Try.pinned : Pinned := { name := "ytcjpfifajbjalaa", sum := "3856217d32e2b4e6d793c7e6b1b3f27e5c9d0272db6583e961de954c64ab3026", checked := Try.checked }
namespace Rows
def none {H : Type} : Left H := { results := [], args := [] }

/-- 'laws.FnDistinct': WHATEVER THE INPUT: true; the input reads as it did. -/
def fnDistinctSpec : ChangeSpec := { name := "fnDistinct", fn := fun _ => fun
  | [d1, d2] => { results := [.lit (.bool true)], args := [d1, d2] }
  | _ => none }
def fnDistinctRow : OpenClaim := { program := "ytcjpfifajbjalaa", sum := "3856217d32e2b4e6d793c7e6b1b3f27e5c9d0272db6583e961de954c64ab3026", func := "loop.example/g01347/laws.FnDistinct", spec := "fnDistinct", inPlace := ["math.Float64frombits"], unfollowed := true, recurses := true, apart := false }
def FnDistinctSaid : Prop := fnDistinctRow.holds Try.pinned (OpenSpec.ofChange fnDistinctSpec)

/-- ITS FALSE NEIGHBOUR: 'it returns false'. Refute it at one input. -/
def fnDistinctWrong : ChangeSpec := { name := "fnDistinct", fn := fun _ => fun
  | [d1, d2] => { results := [.lit (.bool false)], args := [d1, d2] }
  | _ => none }
def FnDistinctWrongFalsely : Prop := fnDistinctRow.holds Try.pinned (OpenSpec.ofChange fnDistinctWrong)

/-- 'laws.FnTopKeys': WHATEVER THE INPUT: true; the input reads as it did. -/
def fnTopKeysSpec : ChangeSpec := { name := "fnTopKeys", fn := fun _ => fun
  | [d1, d2] => { results := [.lit (.bool true)], args := [d1, d2] }
  | _ => none }
def fnTopKeysRow : OpenClaim := { program := "ytcjpfifajbjalaa", sum := "3856217d32e2b4e6d793c7e6b1b3f27e5c9d0272db6583e961de954c64ab3026", func := "loop.example/g01347/laws.FnTopKeys", spec := "fnTopKeys", unfollowed := true, recurses := true, apart := false }
def FnTopKeysSaid : Prop := fnTopKeysRow.holds Try.pinned (OpenSpec.ofChange fnTopKeysSpec)

/-- ITS FALSE NEIGHBOUR: 'it returns false'. Refute it at one input. -/
def fnTopKeysWrong : ChangeSpec := { name := "fnTopKeys", fn := fun _ => fun
  | [d1, d2] => { results := [.lit (.bool false)], args := [d1, d2] }
  | _ => none }
def FnTopKeysWrongFalsely : Prop := fnTopKeysRow.holds Try.pinned (OpenSpec.ofChange fnTopKeysWrong)

/-- 'laws.FnHistograms': WHATEVER THE INPUT: true; the input reads as it did. -/
def fnHistogramsSpec : ChangeSpec := { name := "fnHistograms", fn := fun _ => fun
  | [d1, d2] => { results := [.lit (.bool true)], args := [d1, d2] }
  | _ => none }
def fnHistogramsRow : OpenClaim := { program := "ytcjpfifajbjalaa", sum := "3856217d32e2b4e6d793c7e6b1b3f27e5c9d0272db6583e961de954c64ab3026", func := "loop.example/g01347/laws.FnHistograms", spec := "fnHistograms", inPlace := ["math.Float32bits"], unfollowed := true, recurses := true, apart := false }
def FnHistogramsSaid : Prop := fnHistogramsRow.holds Try.pinned (OpenSpec.ofChange fnHistogramsSpec)

/-- ITS FALSE NEIGHBOUR: 'it returns false'. Refute it at one input. -/
def fnHistogramsWrong : ChangeSpec := { name := "fnHistograms", fn := fun _ => fun
  | [d1, d2] => { results := [.lit (.bool false)], args := [d1, d2] }
  | _ => none }
def FnHistogramsWrongFalsely : Prop := fnHistogramsRow.holds Try.pinned (OpenSpec.ofChange fnHistogramsWrong)

/-- 'laws.FnSieves': WHATEVER THE INPUT: true; the input reads as it did. -/
def fnSievesSpec : ChangeSpec := { name := "fnSieves", fn := fun _ => fun
  | [d1, d2] => { results := [.lit (.bool true)], args := [d1, d2] }
  | _ => none }
def fnSievesRow : OpenClaim := { program := "ytcjpfifajbjalaa", sum := "3856217d32e2b4e6d793c7e6b1b3f27e5c9d0272db6583e961de954c64ab3026", func := "loop.example/g01347/laws.FnSieves", spec := "fnSieves", inPlace := ["math.Float64frombits"], unfollowed := true, recurses := true, apart := false }
def FnSievesSaid : Prop := fnSievesRow.holds Try.pinned (OpenSpec.ofChange fnSievesSpec)

/-- ITS FALSE NEIGHBOUR: 'it returns false'. Refute it at one input. -/
def fnSievesWrong : ChangeSpec := { name := "fnSieves", fn := fun _ => fun
  | [d1, d2] => { results := [.lit (.bool false)], args := [d1, d2] }
  | _ => none }
def FnSievesWrongFalsely : Prop := fnSievesRow.holds Try.pinned (OpenSpec.ofChange fnSievesWrong)

/-- 'laws.FnClustered': WHATEVER THE INPUT: true; the input reads as it did. -/
def fnClusteredSpec : ChangeSpec := { name := "fnClustered", fn := fun _ => fun
  | [d1, d2] => { results := [.lit (.bool true)], args := [d1, d2] }
  | _ => none }
def fnClusteredRow : OpenClaim := { program := "ytcjpfifajbjalaa", sum := "3856217d32e2b4e6d793c7e6b1b3f27e5c9d0272db6583e961de954c64ab3026", func := "loop.example/g01347/laws.FnClustered", spec := "fnClustered", inPlace := ["slices.overlaps[float32]", "slices.overlaps[int64]"], unfollowed := true, recurses := true, apart := false }
def FnClusteredSaid : Prop := fnClusteredRow.holds Try.pinned (OpenSpec.ofChange fnClusteredSpec)

/-- ITS FALSE NEIGHBOUR: 'it returns false'. Refute it at one input. -/
def fnClusteredWrong : ChangeSpec := { name := "fnClustered", fn := fun _ => fun
  | [d1, d2] => { results := [.lit (.bool false)], args := [d1, d2] }
  | _ => none }
def FnClusteredWrongFalsely : Prop := fnClusteredRow.holds Try.pinned (OpenSpec.ofChange fnClusteredWrong)

/-- 'laws.FnExactPutLevels': WHATEVER THE INPUT: true; the input reads as it did. -/
def fnExactPutLevelsSpec : ChangeSpec := { name := "fnExactPutLevels", fn := fun _ => fun
  | [d1, d2] => { results := [.lit (.bool true)], args := [d1, d2] }
  | _ => none }
def fnExactPutLevelsRow : OpenClaim := { program := "ytcjpfifajbjalaa", sum := "3856217d32e2b4e6d793c7e6b1b3f27e5c9d0272db6583e961de954c64ab3026", func := "loop.example/g01347/laws.FnExactPutLevels", spec := "fnExactPutLevels", unfollowed := true, recurses := true, apart := false }
def FnExactPutLevelsSaid : Prop := fnExactPutLevelsRow.holds Try.pinned (OpenSpec.ofChange fnExactPutLevelsSpec)

/-- ITS FALSE NEIGHBOUR: 'it returns false'. Refute it at one input. -/
def fnExactPutLevelsWrong : ChangeSpec := { name := "fnExactPutLevels", fn := fun _ => fun
  | [d1, d2] => { results := [.lit (.bool false)], args := [d1, d2] }
  | _ => none }
def FnExactPutLevelsWrongFalsely : Prop := fnExactPutLevelsRow.holds Try.pinned (OpenSpec.ofChange fnExactPutLevelsWrong)

/-- 'laws.FnExactMergeLevels': WHATEVER THE INPUT: true; the input reads as it did. -/
def fnExactMergeLevelsSpec : ChangeSpec := { name := "fnExactMergeLevels", fn := fun _ => fun
  | [d1, d2] => { results := [.lit (.bool true)], args := [d1, d2] }
  | _ => none }
def fnExactMergeLevelsRow : OpenClaim := { program := "ytcjpfifajbjalaa", sum := "3856217d32e2b4e6d793c7e6b1b3f27e5c9d0272db6583e961de954c64ab3026", func := "loop.example/g01347/laws.FnExactMergeLevels", spec := "fnExactMergeLevels", unfollowed := true, recurses := true, apart := false }
def FnExactMergeLevelsSaid : Prop := fnExactMergeLevelsRow.holds Try.pinned (OpenSpec.ofChange fnExactMergeLevelsSpec)

/-- ITS FALSE NEIGHBOUR: 'it returns false'. Refute it at one input. -/
def fnExactMergeLevelsWrong : ChangeSpec := { name := "fnExactMergeLevels", fn := fun _ => fun
  | [d1, d2] => { results := [.lit (.bool false)], args := [d1, d2] }
  | _ => none }
def FnExactMergeLevelsWrongFalsely : Prop := fnExactMergeLevelsRow.holds Try.pinned (OpenSpec.ofChange fnExactMergeLevelsWrong)

/-- 'laws.FnHalves': WHATEVER THE INPUT: true; the input reads as it did. -/
def fnHalvesSpec : ChangeSpec := { name := "fnHalves", fn := fun _ => fun
  | [d1, d2] => { results := [.lit (.bool true)], args := [d1, d2] }
  | _ => none }
def fnHalvesRow : OpenClaim := { program := "ytcjpfifajbjalaa", sum := "3856217d32e2b4e6d793c7e6b1b3f27e5c9d0272db6583e961de954c64ab3026", func := "loop.example/g01347/laws.FnHalves", spec := "fnHalves", inPlace := ["math.archCeil", "math.archFloor", "math.Float64bits", "math.Float64frombits", "math.archTrunc"], unfollowed := true, recurses := true, apart := false }
def FnHalvesSaid : Prop := fnHalvesRow.holds Try.pinned (OpenSpec.ofChange fnHalvesSpec)

/-- ITS FALSE NEIGHBOUR: 'it returns false'. Refute it at one input. -/
def fnHalvesWrong : ChangeSpec := { name := "fnHalves", fn := fun _ => fun
  | [d1, d2] => { results := [.lit (.bool false)], args := [d1, d2] }
  | _ => none }
def FnHalvesWrongFalsely : Prop := fnHalvesRow.holds Try.pinned (OpenSpec.ofChange fnHalvesWrong)

/-- 'laws.FnExactLevelsQuantile': WHATEVER THE INPUT: true; the input reads as it did. -/
def fnExactLevelsQuantileSpec : ChangeSpec := { name := "fnExactLevelsQuantile", fn := fun _ => fun
  | [d1, d2] => { results := [.lit (.bool true)], args := [d1, d2] }
  | _ => none }
def fnExactLevelsQuantileRow : OpenClaim := { program := "ytcjpfifajbjalaa", sum := "3856217d32e2b4e6d793c7e6b1b3f27e5c9d0272db6583e961de954c64ab3026", func := "loop.example/g01347/laws.FnExactLevelsQuantile", spec := "fnExactLevelsQuantile", inPlace := ["math.archCeil", "math.archFloor", "math.Float64bits", "math.Float64frombits", "math.archTrunc"], unfollowed := true, recurses := true, apart := false }
def FnExactLevelsQuantileSaid : Prop := fnExactLevelsQuantileRow.holds Try.pinned (OpenSpec.ofChange fnExactLevelsQuantileSpec)

/-- ITS FALSE NEIGHBOUR: 'it returns false'. Refute it at one input. -/
def fnExactLevelsQuantileWrong : ChangeSpec := { name := "fnExactLevelsQuantile", fn := fun _ => fun
  | [d1, d2] => { results := [.lit (.bool false)], args := [d1, d2] }
  | _ => none }
def FnExactLevelsQuantileWrongFalsely : Prop := fnExactLevelsQuantileRow.holds Try.pinned (OpenSpec.ofChange fnExactLevelsQuantileWrong)

/-- 'laws.FnFingers': WHATEVER THE INPUT: true; the input reads as it did. -/
def fnFingersSpec : ChangeSpec := { name := "fnFingers", fn := fun _ => fun
  | [d1, d2] => { results := [.lit (.bool true)], args := [d1, d2] }
  | _ => none }
def fnFingersRow : OpenClaim := { program := "ytcjpfifajbjalaa", sum := "3856217d32e2b4e6d793c7e6b1b3f27e5c9d0272db6583e961de954c64ab3026", func := "loop.example/g01347/laws.FnFingers", spec := "fnFingers", unfollowed := true, recurses := true, apart := false }
def FnFingersSaid : Prop := fnFingersRow.holds Try.pinned (OpenSpec.ofChange fnFingersSpec)

/-- ITS FALSE NEIGHBOUR: 'it returns false'. Refute it at one input. -/
def fnFingersWrong : ChangeSpec := { name := "fnFingers", fn := fun _ => fun
  | [d1, d2] => { results := [.lit (.bool false)], args := [d1, d2] }
  | _ => none }
def FnFingersWrongFalsely : Prop := fnFingersRow.holds Try.pinned (OpenSpec.ofChange fnFingersWrong)

/-- 'laws.FnExactPeelCells': WHATEVER THE INPUT: true; the input reads as it did. -/
def fnExactPeelCellsSpec : ChangeSpec := { name := "fnExactPeelCells", fn := fun _ => fun
  | [d1, d2, d3] => { results := [.lit (.bool true)], args := [d1, d2, d3] }
  | _ => none }
def fnExactPeelCellsRow : OpenClaim := { program := "ytcjpfifajbjalaa", sum := "3856217d32e2b4e6d793c7e6b1b3f27e5c9d0272db6583e961de954c64ab3026", func := "loop.example/g01347/laws.FnExactPeelCells", spec := "fnExactPeelCells", unfollowed := true, recurses := true, apart := false }
def FnExactPeelCellsSaid : Prop := fnExactPeelCellsRow.holds Try.pinned (OpenSpec.ofChange fnExactPeelCellsSpec)

/-- ITS FALSE NEIGHBOUR: 'it returns false'. Refute it at one input. -/
def fnExactPeelCellsWrong : ChangeSpec := { name := "fnExactPeelCells", fn := fun _ => fun
  | [d1, d2, d3] => { results := [.lit (.bool false)], args := [d1, d2, d3] }
  | _ => none }
def FnExactPeelCellsWrongFalsely : Prop := fnExactPeelCellsRow.holds Try.pinned (OpenSpec.ofChange fnExactPeelCellsWrong)

/- THE SECOND FORM. 'bulk': how many values and letters a reading holds, each counted each time it is reached (what is shared counts as often as it is met; a slice's spare places count too). A statement '..UptoSaid' is the law's where the arguments, and the package variables that the reading takes, are together of bulk at most 1048576: NARROWER than '..Said'. Prove '..Said' where nothing that the law and all that it calls make is longer than what came in: it says more and counts as full. Else prove '..UptoSaid'. A law counts once. -/
mutual
def uptoBulk {H : Type} : DataW H → Nat
  | .lit (.string bytes) => bytes.length + 1
  | .lit _ => 1
  | .nil => 1
  | .ptr d => uptoBulk d + 1
  | .slice elems spare => uptoBulkAll elems + uptoBulkAll spare + 1
  | .agg parts => uptoBulkAll parts + 1
  | .iface _ d => uptoBulk d + 1
  | .map entries => uptoBulkEntries entries + 1
  | .held _ => 1
def uptoBulkAll {H : Type} : List (DataW H) → Nat
  | [] => 0
  | d :: r => uptoBulk d + uptoBulkAll r
def uptoBulkEntries {H : Type} : List (Lit × DataW H) → Nat
  | [] => 0
  | x :: r => uptoBulkEntry x + uptoBulkEntries r
def uptoBulkEntry {H : Type} : Lit × DataW H → Nat
  | (.string bytes, d) => bytes.length + uptoBulk d + 1
  | (_, d) => uptoBulk d + 1
 end
def uptoSmall : (H : Type) → List (DataW H) → Bool := fun _ ds => decide (uptoBulkAll ds ≤ 1048576)
def OpenSpec.upto (s : _root_.Go.ChangeSpec) : _root_.Go.OpenSpec := { _root_.Go.OpenSpec.ofChange s with cond := some uptoSmall }

/-- 'laws.FnDistinct', WHERE WHAT IT READS IS OF BULK AT MOST 1048576: true; the input reads as it did. -/
def fnDistinctUptoRow : OpenClaim := { program := "ytcjpfifajbjalaa", sum := "3856217d32e2b4e6d793c7e6b1b3f27e5c9d0272db6583e961de954c64ab3026", func := "loop.example/g01347/laws.FnDistinct", spec := "fnDistinct", inPlace := ["math.Float64frombits"], unfollowed := true, recurses := true, apart := false, narrowed := true }
def FnDistinctUptoSaid : Prop := fnDistinctUptoRow.holds Try.pinned (OpenSpec.upto fnDistinctSpec)

/-- 'laws.FnTopKeys', WHERE WHAT IT READS IS OF BULK AT MOST 1048576: true; the input reads as it did. -/
def fnTopKeysUptoRow : OpenClaim := { program := "ytcjpfifajbjalaa", sum := "3856217d32e2b4e6d793c7e6b1b3f27e5c9d0272db6583e961de954c64ab3026", func := "loop.example/g01347/laws.FnTopKeys", spec := "fnTopKeys", unfollowed := true, recurses := true, apart := false, narrowed := true }
def FnTopKeysUptoSaid : Prop := fnTopKeysUptoRow.holds Try.pinned (OpenSpec.upto fnTopKeysSpec)

/-- 'laws.FnHistograms', WHERE WHAT IT READS IS OF BULK AT MOST 1048576: true; the input reads as it did. -/
def fnHistogramsUptoRow : OpenClaim := { program := "ytcjpfifajbjalaa", sum := "3856217d32e2b4e6d793c7e6b1b3f27e5c9d0272db6583e961de954c64ab3026", func := "loop.example/g01347/laws.FnHistograms", spec := "fnHistograms", inPlace := ["math.Float32bits"], unfollowed := true, recurses := true, apart := false, narrowed := true }
def FnHistogramsUptoSaid : Prop := fnHistogramsUptoRow.holds Try.pinned (OpenSpec.upto fnHistogramsSpec)

/-- 'laws.FnSieves', WHERE WHAT IT READS IS OF BULK AT MOST 1048576: true; the input reads as it did. -/
def fnSievesUptoRow : OpenClaim := { program := "ytcjpfifajbjalaa", sum := "3856217d32e2b4e6d793c7e6b1b3f27e5c9d0272db6583e961de954c64ab3026", func := "loop.example/g01347/laws.FnSieves", spec := "fnSieves", inPlace := ["math.Float64frombits"], unfollowed := true, recurses := true, apart := false, narrowed := true }
def FnSievesUptoSaid : Prop := fnSievesUptoRow.holds Try.pinned (OpenSpec.upto fnSievesSpec)

/-- 'laws.FnClustered', WHERE WHAT IT READS IS OF BULK AT MOST 1048576: true; the input reads as it did. -/
def fnClusteredUptoRow : OpenClaim := { program := "ytcjpfifajbjalaa", sum := "3856217d32e2b4e6d793c7e6b1b3f27e5c9d0272db6583e961de954c64ab3026", func := "loop.example/g01347/laws.FnClustered", spec := "fnClustered", inPlace := ["slices.overlaps[float32]", "slices.overlaps[int64]"], unfollowed := true, recurses := true, apart := false, narrowed := true }
def FnClusteredUptoSaid : Prop := fnClusteredUptoRow.holds Try.pinned (OpenSpec.upto fnClusteredSpec)

/-- 'laws.FnExactPutLevels', WHERE WHAT IT READS IS OF BULK AT MOST 1048576: true; the input reads as it did. -/
def fnExactPutLevelsUptoRow : OpenClaim := { program := "ytcjpfifajbjalaa", sum := "3856217d32e2b4e6d793c7e6b1b3f27e5c9d0272db6583e961de954c64ab3026", func := "loop.example/g01347/laws.FnExactPutLevels", spec := "fnExactPutLevels", unfollowed := true, recurses := true, apart := false, narrowed := true }
def FnExactPutLevelsUptoSaid : Prop := fnExactPutLevelsUptoRow.holds Try.pinned (OpenSpec.upto fnExactPutLevelsSpec)

/-- 'laws.FnExactMergeLevels', WHERE WHAT IT READS IS OF BULK AT MOST 1048576: true; the input reads as it did. -/
def fnExactMergeLevelsUptoRow : OpenClaim := { program := "ytcjpfifajbjalaa", sum := "3856217d32e2b4e6d793c7e6b1b3f27e5c9d0272db6583e961de954c64ab3026", func := "loop.example/g01347/laws.FnExactMergeLevels", spec := "fnExactMergeLevels", unfollowed := true, recurses := true, apart := false, narrowed := true }
def FnExactMergeLevelsUptoSaid : Prop := fnExactMergeLevelsUptoRow.holds Try.pinned (OpenSpec.upto fnExactMergeLevelsSpec)

/-- 'laws.FnHalves', WHERE WHAT IT READS IS OF BULK AT MOST 1048576: true; the input reads as it did. -/
def fnHalvesUptoRow : OpenClaim := { program := "ytcjpfifajbjalaa", sum := "3856217d32e2b4e6d793c7e6b1b3f27e5c9d0272db6583e961de954c64ab3026", func := "loop.example/g01347/laws.FnHalves", spec := "fnHalves", inPlace := ["math.archCeil", "math.archFloor", "math.Float64bits", "math.Float64frombits", "math.archTrunc"], unfollowed := true, recurses := true, apart := false, narrowed := true }
def FnHalvesUptoSaid : Prop := fnHalvesUptoRow.holds Try.pinned (OpenSpec.upto fnHalvesSpec)

/-- 'laws.FnExactLevelsQuantile', WHERE WHAT IT READS IS OF BULK AT MOST 1048576: true; the input reads as it did. -/
def fnExactLevelsQuantileUptoRow : OpenClaim := { program := "ytcjpfifajbjalaa", sum := "3856217d32e2b4e6d793c7e6b1b3f27e5c9d0272db6583e961de954c64ab3026", func := "loop.example/g01347/laws.FnExactLevelsQuantile", spec := "fnExactLevelsQuantile", inPlace := ["math.archCeil", "math.archFloor", "math.Float64bits", "math.Float64frombits", "math.archTrunc"], unfollowed := true, recurses := true, apart := false, narrowed := true }
def FnExactLevelsQuantileUptoSaid : Prop := fnExactLevelsQuantileUptoRow.holds Try.pinned (OpenSpec.upto fnExactLevelsQuantileSpec)

/-- 'laws.FnFingers', WHERE WHAT IT READS IS OF BULK AT MOST 1048576: true; the input reads as it did. -/
def fnFingersUptoRow : OpenClaim := { program := "ytcjpfifajbjalaa", sum := "3856217d32e2b4e6d793c7e6b1b3f27e5c9d0272db6583e961de954c64ab3026", func := "loop.example/g01347/laws.FnFingers", spec := "fnFingers", unfollowed := true, recurses := true, apart := false, narrowed := true }
def FnFingersUptoSaid : Prop := fnFingersUptoRow.holds Try.pinned (OpenSpec.upto fnFingersSpec)

/-- 'laws.FnExactPeelCells', WHERE WHAT IT READS IS OF BULK AT MOST 1048576: true; the input reads as it did. -/
def fnExactPeelCellsUptoRow : OpenClaim := { program := "ytcjpfifajbjalaa", sum := "3856217d32e2b4e6d793c7e6b1b3f27e5c9d0272db6583e961de954c64ab3026", func := "loop.example/g01347/laws.FnExactPeelCells", spec := "fnExactPeelCells", unfollowed := true, recurses := true, apart := false, narrowed := true }
def FnExactPeelCellsUptoSaid : Prop := fnExactPeelCellsUptoRow.holds Try.pinned (OpenSpec.upto fnExactPeelCellsSpec)

end Rows
end Go.Proofs.Ytcjpfifajbjalaa
