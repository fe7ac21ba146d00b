/-
  No cell of these rows narrows 'for every input' (looked for: loops, veiled, ifaces, maps, wideKeys, modest, calm, conditions, laid).
  DERIVED. THE GIVEN ROWS OF THIS SEAT. 12 by the template 'for every input the law returns true; each argument reads behind the call as it read before'; 0 by the template 'total and deterministic' (their statements: YtldbojmonegdbaaTotals.lean).
  GIVEN WITH THE SEED: the statements are not yours to turn. If you find one false, say at which input.
  Laid BY PROGRAM, IN A SANDBOX (cutbox-rows.mjs): the forced cells as the released guide's own fill.sh prints them over the translation bac279b162b06506… (all of the seat's roots in one cut). By AI agents, Wed Nov 11 2026. No macro, syntax, notation, axiom, sorry.
-/
import Derived.Test.YtldbojmonegdbaaChecked
import GoSem.Claim
import GoSem.ClaimJoined
import GoSem.ClaimMapViews
import Derived.JoinedTies
import Derived.KernelRfl
namespace Go.Proofs.Ytldbojmonegdbaa
/- THE CELL 'sum', in the pinned program and in every row, IS THE sha256 OF THE DUMP (.gsa) THAT YtldbojmonegdbaaProg.lean LOADS. Nothing in Lean hashes anything: it is a label: what it is worth is what the hold of that sum in a sandbox is worth. -/
noncomputable def Try.pinned : Pinned := { name := "ytldbojmonegdbaa", sum := "bac279b162b065063ab39ddeaa319bbcb20e7dc2a079c3098ad40ddc424bf589", checked := Try.checked }
namespace Rows
def none {H : Type} : Left H := { results := [], args := [] }

/-- 'laws.FnExactEvenCuts': WHATEVER THE INPUT: true; the input reads as it did. -/
def fnExactEvenCutsSpec : ChangeSpec := { name := "fnExactEvenCuts", fn := fun _ => fun
  | [d1, d2] => { results := [.lit (.bool true)], args := [d1, d2] }
  | _ => none }
def fnExactEvenCutsRow : OpenClaim := { program := "ytldbojmonegdbaa", sum := "bac279b162b065063ab39ddeaa319bbcb20e7dc2a079c3098ad40ddc424bf589", func := "loop.example/g01347/laws.FnExactEvenCuts", spec := "fnExactEvenCuts", unfollowed := true, recurses := true, apart := false }
def FnExactEvenCutsSaid : Prop := fnExactEvenCutsRow.holds Try.pinned (OpenSpec.ofChange fnExactEvenCutsSpec)

/-- ITS FALSE NEIGHBOUR: 'it returns false'. Refute it at one input. -/
def fnExactEvenCutsWrong : ChangeSpec := { name := "fnExactEvenCuts", fn := fun _ => fun
  | [d1, d2] => { results := [.lit (.bool false)], args := [d1, d2] }
  | _ => none }
def FnExactEvenCutsWrongFalsely : Prop := fnExactEvenCutsRow.holds Try.pinned (OpenSpec.ofChange fnExactEvenCutsWrong)

/-- 'laws.FnExactNewWindow': WHATEVER THE INPUT: true; the input reads as it did. -/
def fnExactNewWindowSpec : ChangeSpec := { name := "fnExactNewWindow", fn := fun _ => fun
  | [d1, d2] => { results := [.lit (.bool true)], args := [d1, d2] }
  | _ => none }
def fnExactNewWindowRow : OpenClaim := { program := "ytldbojmonegdbaa", sum := "bac279b162b065063ab39ddeaa319bbcb20e7dc2a079c3098ad40ddc424bf589", func := "loop.example/g01347/laws.FnExactNewWindow", spec := "fnExactNewWindow", unfollowed := true, recurses := true, apart := false }
def FnExactNewWindowSaid : Prop := fnExactNewWindowRow.holds Try.pinned (OpenSpec.ofChange fnExactNewWindowSpec)

/-- ITS FALSE NEIGHBOUR: 'it returns false'. Refute it at one input. -/
def fnExactNewWindowWrong : ChangeSpec := { name := "fnExactNewWindow", fn := fun _ => fun
  | [d1, d2] => { results := [.lit (.bool false)], args := [d1, d2] }
  | _ => none }
def FnExactNewWindowWrongFalsely : Prop := fnExactNewWindowRow.holds Try.pinned (OpenSpec.ofChange fnExactNewWindowWrong)

/-- 'laws.FnExactMeansOfWindow': WHATEVER THE INPUT: true; the input reads as it did. -/
def fnExactMeansOfWindowSpec : ChangeSpec := { name := "fnExactMeansOfWindow", fn := fun _ => fun
  | [d1, d2] => { results := [.lit (.bool true)], args := [d1, d2] }
  | _ => none }
def fnExactMeansOfWindowRow : OpenClaim := { program := "ytldbojmonegdbaa", sum := "bac279b162b065063ab39ddeaa319bbcb20e7dc2a079c3098ad40ddc424bf589", func := "loop.example/g01347/laws.FnExactMeansOfWindow", spec := "fnExactMeansOfWindow", unfollowed := true, recurses := true, apart := false }
def FnExactMeansOfWindowSaid : Prop := fnExactMeansOfWindowRow.holds Try.pinned (OpenSpec.ofChange fnExactMeansOfWindowSpec)

/-- ITS FALSE NEIGHBOUR: 'it returns false'. Refute it at one input. -/
def fnExactMeansOfWindowWrong : ChangeSpec := { name := "fnExactMeansOfWindow", fn := fun _ => fun
  | [d1, d2] => { results := [.lit (.bool false)], args := [d1, d2] }
  | _ => none }
def FnExactMeansOfWindowWrongFalsely : Prop := fnExactMeansOfWindowRow.holds Try.pinned (OpenSpec.ofChange fnExactMeansOfWindowWrong)

/-- 'laws.FnExactTimeSample': WHATEVER THE INPUT: true; the input reads as it did. -/
def fnExactTimeSampleSpec : ChangeSpec := { name := "fnExactTimeSample", fn := fun _ => fun
  | [d1, d2, d3, d4, d5] => { results := [.lit (.bool true)], args := [d1, d2, d3, d4, d5] }
  | _ => none }
def fnExactTimeSampleRow : OpenClaim := { program := "ytldbojmonegdbaa", sum := "bac279b162b065063ab39ddeaa319bbcb20e7dc2a079c3098ad40ddc424bf589", func := "loop.example/g01347/laws.FnExactTimeSample", spec := "fnExactTimeSample", unfollowed := true, recurses := true, apart := false }
def FnExactTimeSampleSaid : Prop := fnExactTimeSampleRow.holds Try.pinned (OpenSpec.ofChange fnExactTimeSampleSpec)

/-- ITS FALSE NEIGHBOUR: 'it returns false'. Refute it at one input. -/
def fnExactTimeSampleWrong : ChangeSpec := { name := "fnExactTimeSample", fn := fun _ => fun
  | [d1, d2, d3, d4, d5] => { results := [.lit (.bool false)], args := [d1, d2, d3, d4, d5] }
  | _ => none }
def FnExactTimeSampleWrongFalsely : Prop := fnExactTimeSampleRow.holds Try.pinned (OpenSpec.ofChange fnExactTimeSampleWrong)

/-- 'laws.FnExactSumOfSample': WHATEVER THE INPUT: true; the input reads as it did. -/
def fnExactSumOfSampleSpec : ChangeSpec := { name := "fnExactSumOfSample", fn := fun _ => fun
  | [d1, d2, d3] => { results := [.lit (.bool true)], args := [d1, d2, d3] }
  | _ => none }
def fnExactSumOfSampleRow : OpenClaim := { program := "ytldbojmonegdbaa", sum := "bac279b162b065063ab39ddeaa319bbcb20e7dc2a079c3098ad40ddc424bf589", func := "loop.example/g01347/laws.FnExactSumOfSample", spec := "fnExactSumOfSample", unfollowed := true, recurses := true, apart := false }
def FnExactSumOfSampleSaid : Prop := fnExactSumOfSampleRow.holds Try.pinned (OpenSpec.ofChange fnExactSumOfSampleSpec)

/-- ITS FALSE NEIGHBOUR: 'it returns false'. Refute it at one input. -/
def fnExactSumOfSampleWrong : ChangeSpec := { name := "fnExactSumOfSample", fn := fun _ => fun
  | [d1, d2, d3] => { results := [.lit (.bool false)], args := [d1, d2, d3] }
  | _ => none }
def FnExactSumOfSampleWrongFalsely : Prop := fnExactSumOfSampleRow.holds Try.pinned (OpenSpec.ofChange fnExactSumOfSampleWrong)

/-- 'laws.FnExactValidLevels': WHATEVER THE INPUT: true; the input reads as it did. -/
def fnExactValidLevelsSpec : ChangeSpec := { name := "fnExactValidLevels", fn := fun _ => fun
  | [d] => { results := [.lit (.bool true)], args := [d] }
  | _ => none }
def fnExactValidLevelsRow : OpenClaim := { program := "ytldbojmonegdbaa", sum := "bac279b162b065063ab39ddeaa319bbcb20e7dc2a079c3098ad40ddc424bf589", func := "loop.example/g01347/laws.FnExactValidLevels", spec := "fnExactValidLevels", unfollowed := true, recurses := true, apart := false }
def FnExactValidLevelsSaid : Prop := fnExactValidLevelsRow.holds Try.pinned (OpenSpec.ofChange fnExactValidLevelsSpec)

/-- ITS FALSE NEIGHBOUR: 'it returns false'. Refute it at one input. -/
def fnExactValidLevelsWrong : ChangeSpec := { name := "fnExactValidLevels", fn := fun _ => fun
  | [d] => { results := [.lit (.bool false)], args := [d] }
  | _ => none }
def FnExactValidLevelsWrongFalsely : Prop := fnExactValidLevelsRow.holds Try.pinned (OpenSpec.ofChange fnExactValidLevelsWrong)

/-- 'laws.FnExactPutDecay': WHATEVER THE INPUT: true; the input reads as it did. -/
def fnExactPutDecaySpec : ChangeSpec := { name := "fnExactPutDecay", fn := fun _ => fun
  | [d1, d2, d3] => { results := [.lit (.bool true)], args := [d1, d2, d3] }
  | _ => none }
def fnExactPutDecayRow : OpenClaim := { program := "ytldbojmonegdbaa", sum := "bac279b162b065063ab39ddeaa319bbcb20e7dc2a079c3098ad40ddc424bf589", func := "loop.example/g01347/laws.FnExactPutDecay", spec := "fnExactPutDecay", inPlace := ["math.Float64frombits"], apart := false }
def FnExactPutDecaySaid : Prop := fnExactPutDecayRow.holds Try.pinned (OpenSpec.ofChange fnExactPutDecaySpec)

/-- ITS FALSE NEIGHBOUR: 'it returns false'. Refute it at one input. -/
def fnExactPutDecayWrong : ChangeSpec := { name := "fnExactPutDecay", fn := fun _ => fun
  | [d1, d2, d3] => { results := [.lit (.bool false)], args := [d1, d2, d3] }
  | _ => none }
def FnExactPutDecayWrongFalsely : Prop := fnExactPutDecayRow.holds Try.pinned (OpenSpec.ofChange fnExactPutDecayWrong)

/-- 'laws.FnExactValidWindow': WHATEVER THE INPUT: true; the input reads as it did. -/
def fnExactValidWindowSpec : ChangeSpec := { name := "fnExactValidWindow", fn := fun _ => fun
  | [d] => { results := [.lit (.bool true)], args := [d] }
  | _ => none }
def fnExactValidWindowRow : OpenClaim := { program := "ytldbojmonegdbaa", sum := "bac279b162b065063ab39ddeaa319bbcb20e7dc2a079c3098ad40ddc424bf589", func := "loop.example/g01347/laws.FnExactValidWindow", spec := "fnExactValidWindow", unfollowed := true, recurses := true, apart := false }
def FnExactValidWindowSaid : Prop := fnExactValidWindowRow.holds Try.pinned (OpenSpec.ofChange fnExactValidWindowSpec)

/-- ITS FALSE NEIGHBOUR: 'it returns false'. Refute it at one input. -/
def fnExactValidWindowWrong : ChangeSpec := { name := "fnExactValidWindow", fn := fun _ => fun
  | [d] => { results := [.lit (.bool false)], args := [d] }
  | _ => none }
def FnExactValidWindowWrongFalsely : Prop := fnExactValidWindowRow.holds Try.pinned (OpenSpec.ofChange fnExactValidWindowWrong)

/-- 'laws.FnExactValidClusters': WHATEVER THE INPUT: true; the input reads as it did. -/
def fnExactValidClustersSpec : ChangeSpec := { name := "fnExactValidClusters", fn := fun _ => fun
  | [d] => { results := [.lit (.bool true)], args := [d] }
  | _ => none }
def fnExactValidClustersRow : OpenClaim := { program := "ytldbojmonegdbaa", sum := "bac279b162b065063ab39ddeaa319bbcb20e7dc2a079c3098ad40ddc424bf589", func := "loop.example/g01347/laws.FnExactValidClusters", spec := "fnExactValidClusters", unfollowed := true, recurses := true, apart := false }
def FnExactValidClustersSaid : Prop := fnExactValidClustersRow.holds Try.pinned (OpenSpec.ofChange fnExactValidClustersSpec)

/-- ITS FALSE NEIGHBOUR: 'it returns false'. Refute it at one input. -/
def fnExactValidClustersWrong : ChangeSpec := { name := "fnExactValidClusters", fn := fun _ => fun
  | [d] => { results := [.lit (.bool false)], args := [d] }
  | _ => none }
def FnExactValidClustersWrongFalsely : Prop := fnExactValidClustersRow.holds Try.pinned (OpenSpec.ofChange fnExactValidClustersWrong)

/-- 'laws.FnExactLevelsCount': WHATEVER THE INPUT: true; the input reads as it did. -/
def fnExactLevelsCountSpec : ChangeSpec := { name := "fnExactLevelsCount", fn := fun _ => fun
  | [d] => { results := [.lit (.bool true)], args := [d] }
  | _ => none }
def fnExactLevelsCountRow : OpenClaim := { program := "ytldbojmonegdbaa", sum := "bac279b162b065063ab39ddeaa319bbcb20e7dc2a079c3098ad40ddc424bf589", func := "loop.example/g01347/laws.FnExactLevelsCount", spec := "fnExactLevelsCount", unfollowed := true, recurses := true, apart := false }
def FnExactLevelsCountSaid : Prop := fnExactLevelsCountRow.holds Try.pinned (OpenSpec.ofChange fnExactLevelsCountSpec)

/-- ITS FALSE NEIGHBOUR: 'it returns false'. Refute it at one input. -/
def fnExactLevelsCountWrong : ChangeSpec := { name := "fnExactLevelsCount", fn := fun _ => fun
  | [d] => { results := [.lit (.bool false)], args := [d] }
  | _ => none }
def FnExactLevelsCountWrongFalsely : Prop := fnExactLevelsCountRow.holds Try.pinned (OpenSpec.ofChange fnExactLevelsCountWrong)

/-- 'laws.FnExactSameSummary': WHATEVER THE INPUT: true; the input reads as it did. -/
def fnExactSameSummarySpec : ChangeSpec := { name := "fnExactSameSummary", fn := fun _ => fun
  | [d1, d2] => { results := [.lit (.bool true)], args := [d1, d2] }
  | _ => none }
def fnExactSameSummaryRow : OpenClaim := { program := "ytldbojmonegdbaa", sum := "bac279b162b065063ab39ddeaa319bbcb20e7dc2a079c3098ad40ddc424bf589", func := "loop.example/g01347/laws.FnExactSameSummary", spec := "fnExactSameSummary", inPlace := ["math.Float32bits", "math.Float64bits"], unfollowed := true, recurses := true, apart := false }
def FnExactSameSummarySaid : Prop := fnExactSameSummaryRow.holds Try.pinned (OpenSpec.ofChange fnExactSameSummarySpec)

/-- ITS FALSE NEIGHBOUR: 'it returns false'. Refute it at one input. -/
def fnExactSameSummaryWrong : ChangeSpec := { name := "fnExactSameSummary", fn := fun _ => fun
  | [d1, d2] => { results := [.lit (.bool false)], args := [d1, d2] }
  | _ => none }
def FnExactSameSummaryWrongFalsely : Prop := fnExactSameSummaryRow.holds Try.pinned (OpenSpec.ofChange fnExactSameSummaryWrong)

/-- 'laws.FnExactValidSummary': WHATEVER THE INPUT: true; the input reads as it did. -/
def fnExactValidSummarySpec : ChangeSpec := { name := "fnExactValidSummary", fn := fun _ => fun
  | [d] => { results := [.lit (.bool true)], args := [d] }
  | _ => none }
def fnExactValidSummaryRow : OpenClaim := { program := "ytldbojmonegdbaa", sum := "bac279b162b065063ab39ddeaa319bbcb20e7dc2a079c3098ad40ddc424bf589", func := "loop.example/g01347/laws.FnExactValidSummary", spec := "fnExactValidSummary", unfollowed := true, recurses := true, apart := false }
def FnExactValidSummarySaid : Prop := fnExactValidSummaryRow.holds Try.pinned (OpenSpec.ofChange fnExactValidSummarySpec)

/-- ITS FALSE NEIGHBOUR: 'it returns false'. Refute it at one input. -/
def fnExactValidSummaryWrong : ChangeSpec := { name := "fnExactValidSummary", fn := fun _ => fun
  | [d] => { results := [.lit (.bool false)], args := [d] }
  | _ => none }
def FnExactValidSummaryWrongFalsely : Prop := fnExactValidSummaryRow.holds Try.pinned (OpenSpec.ofChange fnExactValidSummaryWrong)

/- THE SECOND FORM. 'bulk': how many values and letters a reading holds, each counted each time it is reached (what is shared counts as often as it is met; a slice's spare places count too). A statement '..UptoSaid' is the law's where the arguments, and the package variables that the reading takes, are together of bulk at most 1048576: NARROWER than '..Said'. Prove '..Said' where nothing that the law and all that it calls make is longer than what came in: it says more and counts as full. Else prove '..UptoSaid'. A law counts once. -/
mutual
def uptoBulk {H : Type} : DataW H → Nat
  | .lit (.string bytes) => bytes.length + 1
  | .lit _ => 1
  | .nil => 1
  | .ptr d => uptoBulk d + 1
  | .slice elems spare => uptoBulkAll elems + uptoBulkAll spare + 1
  | .agg parts => uptoBulkAll parts + 1
  | .iface _ d => uptoBulk d + 1
  | .map entries => uptoBulkEntries entries + 1
  | .held _ => 1
def uptoBulkAll {H : Type} : List (DataW H) → Nat
  | [] => 0
  | d :: r => uptoBulk d + uptoBulkAll r
def uptoBulkEntries {H : Type} : List (Lit × DataW H) → Nat
  | [] => 0
  | x :: r => uptoBulkEntry x + uptoBulkEntries r
def uptoBulkEntry {H : Type} : Lit × DataW H → Nat
  | (.string bytes, d) => bytes.length + uptoBulk d + 1
  | (_, d) => uptoBulk d + 1
 end
def uptoSmall : (H : Type) → List (DataW H) → Bool := fun _ ds => decide (uptoBulkAll ds ≤ 1048576)
def OpenSpec.upto (s : _root_.Go.ChangeSpec) : _root_.Go.OpenSpec := { _root_.Go.OpenSpec.ofChange s with cond := some uptoSmall }

/-- 'laws.FnExactEvenCuts', WHERE WHAT IT READS IS OF BULK AT MOST 1048576: true; the input reads as it did. -/
def fnExactEvenCutsUptoRow : OpenClaim := { program := "ytldbojmonegdbaa", sum := "bac279b162b065063ab39ddeaa319bbcb20e7dc2a079c3098ad40ddc424bf589", func := "loop.example/g01347/laws.FnExactEvenCuts", spec := "fnExactEvenCuts", unfollowed := true, recurses := true, apart := false, narrowed := true }
def FnExactEvenCutsUptoSaid : Prop := fnExactEvenCutsUptoRow.holds Try.pinned (OpenSpec.upto fnExactEvenCutsSpec)

/-- 'laws.FnExactNewWindow', WHERE WHAT IT READS IS OF BULK AT MOST 1048576: true; the input reads as it did. -/
def fnExactNewWindowUptoRow : OpenClaim := { program := "ytldbojmonegdbaa", sum := "bac279b162b065063ab39ddeaa319bbcb20e7dc2a079c3098ad40ddc424bf589", func := "loop.example/g01347/laws.FnExactNewWindow", spec := "fnExactNewWindow", unfollowed := true, recurses := true, apart := false, narrowed := true }
def FnExactNewWindowUptoSaid : Prop := fnExactNewWindowUptoRow.holds Try.pinned (OpenSpec.upto fnExactNewWindowSpec)

/-- 'laws.FnExactMeansOfWindow', WHERE WHAT IT READS IS OF BULK AT MOST 1048576: true; the input reads as it did. -/
def fnExactMeansOfWindowUptoRow : OpenClaim := { program := "ytldbojmonegdbaa", sum := "bac279b162b065063ab39ddeaa319bbcb20e7dc2a079c3098ad40ddc424bf589", func := "loop.example/g01347/laws.FnExactMeansOfWindow", spec := "fnExactMeansOfWindow", unfollowed := true, recurses := true, apart := false, narrowed := true }
def FnExactMeansOfWindowUptoSaid : Prop := fnExactMeansOfWindowUptoRow.holds Try.pinned (OpenSpec.upto fnExactMeansOfWindowSpec)

/-- 'laws.FnExactTimeSample', WHERE WHAT IT READS IS OF BULK AT MOST 1048576: true; the input reads as it did. -/
def fnExactTimeSampleUptoRow : OpenClaim := { program := "ytldbojmonegdbaa", sum := "bac279b162b065063ab39ddeaa319bbcb20e7dc2a079c3098ad40ddc424bf589", func := "loop.example/g01347/laws.FnExactTimeSample", spec := "fnExactTimeSample", unfollowed := true, recurses := true, apart := false, narrowed := true }
def FnExactTimeSampleUptoSaid : Prop := fnExactTimeSampleUptoRow.holds Try.pinned (OpenSpec.upto fnExactTimeSampleSpec)

/-- 'laws.FnExactSumOfSample', WHERE WHAT IT READS IS OF BULK AT MOST 1048576: true; the input reads as it did. -/
def fnExactSumOfSampleUptoRow : OpenClaim := { program := "ytldbojmonegdbaa", sum := "bac279b162b065063ab39ddeaa319bbcb20e7dc2a079c3098ad40ddc424bf589", func := "loop.example/g01347/laws.FnExactSumOfSample", spec := "fnExactSumOfSample", unfollowed := true, recurses := true, apart := false, narrowed := true }
def FnExactSumOfSampleUptoSaid : Prop := fnExactSumOfSampleUptoRow.holds Try.pinned (OpenSpec.upto fnExactSumOfSampleSpec)

/-- 'laws.FnExactValidLevels', WHERE WHAT IT READS IS OF BULK AT MOST 1048576: true; the input reads as it did. -/
def fnExactValidLevelsUptoRow : OpenClaim := { program := "ytldbojmonegdbaa", sum := "bac279b162b065063ab39ddeaa319bbcb20e7dc2a079c3098ad40ddc424bf589", func := "loop.example/g01347/laws.FnExactValidLevels", spec := "fnExactValidLevels", unfollowed := true, recurses := true, apart := false, narrowed := true }
def FnExactValidLevelsUptoSaid : Prop := fnExactValidLevelsUptoRow.holds Try.pinned (OpenSpec.upto fnExactValidLevelsSpec)

/-- 'laws.FnExactPutDecay', WHERE WHAT IT READS IS OF BULK AT MOST 1048576: true; the input reads as it did. -/
def fnExactPutDecayUptoRow : OpenClaim := { program := "ytldbojmonegdbaa", sum := "bac279b162b065063ab39ddeaa319bbcb20e7dc2a079c3098ad40ddc424bf589", func := "loop.example/g01347/laws.FnExactPutDecay", spec := "fnExactPutDecay", inPlace := ["math.Float64frombits"], apart := false, narrowed := true }
def FnExactPutDecayUptoSaid : Prop := fnExactPutDecayUptoRow.holds Try.pinned (OpenSpec.upto fnExactPutDecaySpec)

/-- 'laws.FnExactValidWindow', WHERE WHAT IT READS IS OF BULK AT MOST 1048576: true; the input reads as it did. -/
def fnExactValidWindowUptoRow : OpenClaim := { program := "ytldbojmonegdbaa", sum := "bac279b162b065063ab39ddeaa319bbcb20e7dc2a079c3098ad40ddc424bf589", func := "loop.example/g01347/laws.FnExactValidWindow", spec := "fnExactValidWindow", unfollowed := true, recurses := true, apart := false, narrowed := true }
def FnExactValidWindowUptoSaid : Prop := fnExactValidWindowUptoRow.holds Try.pinned (OpenSpec.upto fnExactValidWindowSpec)

/-- 'laws.FnExactValidClusters', WHERE WHAT IT READS IS OF BULK AT MOST 1048576: true; the input reads as it did. -/
def fnExactValidClustersUptoRow : OpenClaim := { program := "ytldbojmonegdbaa", sum := "bac279b162b065063ab39ddeaa319bbcb20e7dc2a079c3098ad40ddc424bf589", func := "loop.example/g01347/laws.FnExactValidClusters", spec := "fnExactValidClusters", unfollowed := true, recurses := true, apart := false, narrowed := true }
def FnExactValidClustersUptoSaid : Prop := fnExactValidClustersUptoRow.holds Try.pinned (OpenSpec.upto fnExactValidClustersSpec)

/-- 'laws.FnExactLevelsCount', WHERE WHAT IT READS IS OF BULK AT MOST 1048576: true; the input reads as it did. -/
def fnExactLevelsCountUptoRow : OpenClaim := { program := "ytldbojmonegdbaa", sum := "bac279b162b065063ab39ddeaa319bbcb20e7dc2a079c3098ad40ddc424bf589", func := "loop.example/g01347/laws.FnExactLevelsCount", spec := "fnExactLevelsCount", unfollowed := true, recurses := true, apart := false, narrowed := true }
def FnExactLevelsCountUptoSaid : Prop := fnExactLevelsCountUptoRow.holds Try.pinned (OpenSpec.upto fnExactLevelsCountSpec)

/-- 'laws.FnExactSameSummary', WHERE WHAT IT READS IS OF BULK AT MOST 1048576: true; the input reads as it did. -/
def fnExactSameSummaryUptoRow : OpenClaim := { program := "ytldbojmonegdbaa", sum := "bac279b162b065063ab39ddeaa319bbcb20e7dc2a079c3098ad40ddc424bf589", func := "loop.example/g01347/laws.FnExactSameSummary", spec := "fnExactSameSummary", inPlace := ["math.Float32bits", "math.Float64bits"], unfollowed := true, recurses := true, apart := false, narrowed := true }
def FnExactSameSummaryUptoSaid : Prop := fnExactSameSummaryUptoRow.holds Try.pinned (OpenSpec.upto fnExactSameSummarySpec)

/-- 'laws.FnExactValidSummary', WHERE WHAT IT READS IS OF BULK AT MOST 1048576: true; the input reads as it did. -/
def fnExactValidSummaryUptoRow : OpenClaim := { program := "ytldbojmonegdbaa", sum := "bac279b162b065063ab39ddeaa319bbcb20e7dc2a079c3098ad40ddc424bf589", func := "loop.example/g01347/laws.FnExactValidSummary", spec := "fnExactValidSummary", unfollowed := true, recurses := true, apart := false, narrowed := true }
def FnExactValidSummaryUptoSaid : Prop := fnExactValidSummaryUptoRow.holds Try.pinned (OpenSpec.upto fnExactValidSummarySpec)

end Rows
end Go.Proofs.Ytldbojmonegdbaa
