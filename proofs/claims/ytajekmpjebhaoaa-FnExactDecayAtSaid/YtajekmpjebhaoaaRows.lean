/-
  No cell of these rows narrows 'for every input' (looked for: loops, veiled, ifaces, maps, wideKeys, modest, calm, conditions, laid).
  DERIVED. THE GIVEN ROWS OF THIS SEAT. 12 by the template 'for every input the law returns true; each argument reads behind the call as it read before'; 0 by the template 'total and deterministic' (their statements: YtajekmpjebhaoaaTotals.lean).
  GIVEN WITH THE SEED: the statements are not yours to turn. If you find one false, say at which input.
  Laid BY PROGRAM, IN A SANDBOX (cutbox-rows.mjs): the forced cells as the released guide's own fill.sh prints them over the translation 887c720f04e867c1… (all of the seat's roots in one cut). By AI agents, Wed Nov 11 2026. No macro, syntax, notation, axiom, sorry.
-/
import Derived.Test.YtajekmpjebhaoaaChecked
import GoSem.Claim
import GoSem.ClaimJoined
import GoSem.ClaimMapViews
import Derived.JoinedTies
import Derived.KernelRfl
namespace Go.Proofs.Ytajekmpjebhaoaa
/- THE CELL 'sum', in the pinned program and in every row, IS THE sha256 OF THE DUMP (.gsa) THAT YtajekmpjebhaoaaProg.lean LOADS. Nothing in Lean hashes anything: it is a label: what it is worth is what the hold of that sum in a sandbox is worth. -/
noncomputable def Try.pinned : Pinned := { name := "ytajekmpjebhaoaa", sum := "887c720f04e867c1e9b59c6084a947e25ce978bb3bcdf9e45ae71f1d9fd6a6fd", checked := Try.checked }
namespace Rows
def none {H : Type} : Left H := { results := [], args := [] }

/-- 'laws.FnExactValidDecay': WHATEVER THE INPUT: true; the input reads as it did. -/
def fnExactValidDecaySpec : ChangeSpec := { name := "fnExactValidDecay", fn := fun _ => fun
  | [d] => { results := [.lit (.bool true)], args := [d] }
  | _ => none }
def fnExactValidDecayRow : OpenClaim := { program := "ytajekmpjebhaoaa", sum := "887c720f04e867c1e9b59c6084a947e25ce978bb3bcdf9e45ae71f1d9fd6a6fd", func := "loop.example/g01347/laws.FnExactValidDecay", spec := "fnExactValidDecay", apart := false }
def FnExactValidDecaySaid : Prop := fnExactValidDecayRow.holds Try.pinned (OpenSpec.ofChange fnExactValidDecaySpec)

/-- ITS FALSE NEIGHBOUR: 'it returns false'. Refute it at one input. -/
def fnExactValidDecayWrong : ChangeSpec := { name := "fnExactValidDecay", fn := fun _ => fun
  | [d] => { results := [.lit (.bool false)], args := [d] }
  | _ => none }
def FnExactValidDecayWrongFalsely : Prop := fnExactValidDecayRow.holds Try.pinned (OpenSpec.ofChange fnExactValidDecayWrong)

/-- 'laws.FnExactSameDecay': WHATEVER THE INPUT: true; the input reads as it did. -/
def fnExactSameDecaySpec : ChangeSpec := { name := "fnExactSameDecay", fn := fun _ => fun
  | [d1, d2] => { results := [.lit (.bool true)], args := [d1, d2] }
  | _ => none }
def fnExactSameDecayRow : OpenClaim := { program := "ytajekmpjebhaoaa", sum := "887c720f04e867c1e9b59c6084a947e25ce978bb3bcdf9e45ae71f1d9fd6a6fd", func := "loop.example/g01347/laws.FnExactSameDecay", spec := "fnExactSameDecay", inPlace := ["math.Float32bits", "math.Float64bits"], apart := false }
def FnExactSameDecaySaid : Prop := fnExactSameDecayRow.holds Try.pinned (OpenSpec.ofChange fnExactSameDecaySpec)

/-- ITS FALSE NEIGHBOUR: 'it returns false'. Refute it at one input. -/
def fnExactSameDecayWrong : ChangeSpec := { name := "fnExactSameDecay", fn := fun _ => fun
  | [d1, d2] => { results := [.lit (.bool false)], args := [d1, d2] }
  | _ => none }
def FnExactSameDecayWrongFalsely : Prop := fnExactSameDecayRow.holds Try.pinned (OpenSpec.ofChange fnExactSameDecayWrong)

/-- 'laws.FnExactIsList': WHATEVER THE INPUT: true; the input reads as it did. -/
def fnExactIsListSpec : ChangeSpec := { name := "fnExactIsList", fn := fun _ => fun
  | [d] => { results := [.lit (.bool true)], args := [d] }
  | _ => none }
def fnExactIsListRow : OpenClaim := { program := "ytajekmpjebhaoaa", sum := "887c720f04e867c1e9b59c6084a947e25ce978bb3bcdf9e45ae71f1d9fd6a6fd", func := "loop.example/g01347/laws.FnExactIsList", spec := "fnExactIsList", unfollowed := true, recurses := true, apart := false }
def FnExactIsListSaid : Prop := fnExactIsListRow.holds Try.pinned (OpenSpec.ofChange fnExactIsListSpec)

/-- ITS FALSE NEIGHBOUR: 'it returns false'. Refute it at one input. -/
def fnExactIsListWrong : ChangeSpec := { name := "fnExactIsList", fn := fun _ => fun
  | [d] => { results := [.lit (.bool false)], args := [d] }
  | _ => none }
def FnExactIsListWrongFalsely : Prop := fnExactIsListRow.holds Try.pinned (OpenSpec.ofChange fnExactIsListWrong)

/-- 'laws.FnExactRankIn': WHATEVER THE INPUT: true; the input reads as it did. -/
def fnExactRankInSpec : ChangeSpec := { name := "fnExactRankIn", fn := fun _ => fun
  | [d1, d2] => { results := [.lit (.bool true)], args := [d1, d2] }
  | _ => none }
def fnExactRankInRow : OpenClaim := { program := "ytajekmpjebhaoaa", sum := "887c720f04e867c1e9b59c6084a947e25ce978bb3bcdf9e45ae71f1d9fd6a6fd", func := "loop.example/g01347/laws.FnExactRankIn", spec := "fnExactRankIn", unfollowed := true, recurses := true, apart := false }
def FnExactRankInSaid : Prop := fnExactRankInRow.holds Try.pinned (OpenSpec.ofChange fnExactRankInSpec)

/-- ITS FALSE NEIGHBOUR: 'it returns false'. Refute it at one input. -/
def fnExactRankInWrong : ChangeSpec := { name := "fnExactRankIn", fn := fun _ => fun
  | [d1, d2] => { results := [.lit (.bool false)], args := [d1, d2] }
  | _ => none }
def FnExactRankInWrongFalsely : Prop := fnExactRankInRow.holds Try.pinned (OpenSpec.ofChange fnExactRankInWrong)

/-- 'laws.FnExactSameWindow': WHATEVER THE INPUT: true; the input reads as it did. -/
def fnExactSameWindowSpec : ChangeSpec := { name := "fnExactSameWindow", fn := fun _ => fun
  | [d1, d2] => { results := [.lit (.bool true)], args := [d1, d2] }
  | _ => none }
def fnExactSameWindowRow : OpenClaim := { program := "ytajekmpjebhaoaa", sum := "887c720f04e867c1e9b59c6084a947e25ce978bb3bcdf9e45ae71f1d9fd6a6fd", func := "loop.example/g01347/laws.FnExactSameWindow", spec := "fnExactSameWindow", apart := false }
def FnExactSameWindowSaid : Prop := fnExactSameWindowRow.holds Try.pinned (OpenSpec.ofChange fnExactSameWindowSpec)

/-- ITS FALSE NEIGHBOUR: 'it returns false'. Refute it at one input. -/
def fnExactSameWindowWrong : ChangeSpec := { name := "fnExactSameWindow", fn := fun _ => fun
  | [d1, d2] => { results := [.lit (.bool false)], args := [d1, d2] }
  | _ => none }
def FnExactSameWindowWrongFalsely : Prop := fnExactSameWindowRow.holds Try.pinned (OpenSpec.ofChange fnExactSameWindowWrong)

/-- 'laws.FnExactCountExactly': WHATEVER THE INPUT: true; the input reads as it did. -/
def fnExactCountExactlySpec : ChangeSpec := { name := "fnExactCountExactly", fn := fun _ => fun
  | [d1, d2, d3, d4] => { results := [.lit (.bool true)], args := [d1, d2, d3, d4] }
  | _ => none }
def fnExactCountExactlyRow : OpenClaim := { program := "ytajekmpjebhaoaa", sum := "887c720f04e867c1e9b59c6084a947e25ce978bb3bcdf9e45ae71f1d9fd6a6fd", func := "loop.example/g01347/laws.FnExactCountExactly", spec := "fnExactCountExactly", unfollowed := true, recurses := true, apart := false }
def FnExactCountExactlySaid : Prop := fnExactCountExactlyRow.holds Try.pinned (OpenSpec.ofChange fnExactCountExactlySpec)

/-- ITS FALSE NEIGHBOUR: 'it returns false'. Refute it at one input. -/
def fnExactCountExactlyWrong : ChangeSpec := { name := "fnExactCountExactly", fn := fun _ => fun
  | [d1, d2, d3, d4] => { results := [.lit (.bool false)], args := [d1, d2, d3, d4] }
  | _ => none }
def FnExactCountExactlyWrongFalsely : Prop := fnExactCountExactlyRow.holds Try.pinned (OpenSpec.ofChange fnExactCountExactlyWrong)

/-- 'laws.FnExactDecayAt': WHATEVER THE INPUT: true; the input reads as it did. -/
def fnExactDecayAtSpec : ChangeSpec := { name := "fnExactDecayAt", fn := fun _ => fun
  | [d1, d2] => { results := [.lit (.bool true)], args := [d1, d2] }
  | _ => none }
def fnExactDecayAtRow : OpenClaim := { program := "ytajekmpjebhaoaa", sum := "887c720f04e867c1e9b59c6084a947e25ce978bb3bcdf9e45ae71f1d9fd6a6fd", func := "loop.example/g01347/laws.FnExactDecayAt", spec := "fnExactDecayAt", inPlace := ["math.Float64frombits"], apart := false }
def FnExactDecayAtSaid : Prop := fnExactDecayAtRow.holds Try.pinned (OpenSpec.ofChange fnExactDecayAtSpec)

/-- ITS FALSE NEIGHBOUR: 'it returns false'. Refute it at one input. -/
def fnExactDecayAtWrong : ChangeSpec := { name := "fnExactDecayAt", fn := fun _ => fun
  | [d1, d2] => { results := [.lit (.bool false)], args := [d1, d2] }
  | _ => none }
def FnExactDecayAtWrongFalsely : Prop := fnExactDecayAtRow.holds Try.pinned (OpenSpec.ofChange fnExactDecayAtWrong)

/-- 'laws.FnDistinct': WHATEVER THE INPUT: true; the input reads as it did. -/
def fnDistinctSpec : ChangeSpec := { name := "fnDistinct", fn := fun _ => fun
  | [d1, d2] => { results := [.lit (.bool true)], args := [d1, d2] }
  | _ => none }
def fnDistinctRow : OpenClaim := { program := "ytajekmpjebhaoaa", sum := "887c720f04e867c1e9b59c6084a947e25ce978bb3bcdf9e45ae71f1d9fd6a6fd", func := "loop.example/g01347/laws.FnDistinct", spec := "fnDistinct", inPlace := ["math.Float64frombits"], unfollowed := true, recurses := true, apart := false }
def FnDistinctSaid : Prop := fnDistinctRow.holds Try.pinned (OpenSpec.ofChange fnDistinctSpec)

/-- ITS FALSE NEIGHBOUR: 'it returns false'. Refute it at one input. -/
def fnDistinctWrong : ChangeSpec := { name := "fnDistinct", fn := fun _ => fun
  | [d1, d2] => { results := [.lit (.bool false)], args := [d1, d2] }
  | _ => none }
def FnDistinctWrongFalsely : Prop := fnDistinctRow.holds Try.pinned (OpenSpec.ofChange fnDistinctWrong)

/-- 'laws.FnExactSmoothStream': WHATEVER THE INPUT: true; the input reads as it did. -/
def fnExactSmoothStreamSpec : ChangeSpec := { name := "fnExactSmoothStream", fn := fun _ => fun
  | [d1, d2] => { results := [.lit (.bool true)], args := [d1, d2] }
  | _ => none }
def fnExactSmoothStreamRow : OpenClaim := { program := "ytajekmpjebhaoaa", sum := "887c720f04e867c1e9b59c6084a947e25ce978bb3bcdf9e45ae71f1d9fd6a6fd", func := "loop.example/g01347/laws.FnExactSmoothStream", spec := "fnExactSmoothStream", unfollowed := true, recurses := true, apart := false }
def FnExactSmoothStreamSaid : Prop := fnExactSmoothStreamRow.holds Try.pinned (OpenSpec.ofChange fnExactSmoothStreamSpec)

/-- ITS FALSE NEIGHBOUR: 'it returns false'. Refute it at one input. -/
def fnExactSmoothStreamWrong : ChangeSpec := { name := "fnExactSmoothStream", fn := fun _ => fun
  | [d1, d2] => { results := [.lit (.bool false)], args := [d1, d2] }
  | _ => none }
def FnExactSmoothStreamWrongFalsely : Prop := fnExactSmoothStreamRow.holds Try.pinned (OpenSpec.ofChange fnExactSmoothStreamWrong)

/-- 'laws.FnExactGreatestOfWindow': WHATEVER THE INPUT: true; the input reads as it did. -/
def fnExactGreatestOfWindowSpec : ChangeSpec := { name := "fnExactGreatestOfWindow", fn := fun _ => fun
  | [d1, d2] => { results := [.lit (.bool true)], args := [d1, d2] }
  | _ => none }
def fnExactGreatestOfWindowRow : OpenClaim := { program := "ytajekmpjebhaoaa", sum := "887c720f04e867c1e9b59c6084a947e25ce978bb3bcdf9e45ae71f1d9fd6a6fd", func := "loop.example/g01347/laws.FnExactGreatestOfWindow", spec := "fnExactGreatestOfWindow", unfollowed := true, recurses := true, apart := false }
def FnExactGreatestOfWindowSaid : Prop := fnExactGreatestOfWindowRow.holds Try.pinned (OpenSpec.ofChange fnExactGreatestOfWindowSpec)

/-- ITS FALSE NEIGHBOUR: 'it returns false'. Refute it at one input. -/
def fnExactGreatestOfWindowWrong : ChangeSpec := { name := "fnExactGreatestOfWindow", fn := fun _ => fun
  | [d1, d2] => { results := [.lit (.bool false)], args := [d1, d2] }
  | _ => none }
def FnExactGreatestOfWindowWrongFalsely : Prop := fnExactGreatestOfWindowRow.holds Try.pinned (OpenSpec.ofChange fnExactGreatestOfWindowWrong)

/-- 'laws.FnExactLeastOfWindow': WHATEVER THE INPUT: true; the input reads as it did. -/
def fnExactLeastOfWindowSpec : ChangeSpec := { name := "fnExactLeastOfWindow", fn := fun _ => fun
  | [d1, d2] => { results := [.lit (.bool true)], args := [d1, d2] }
  | _ => none }
def fnExactLeastOfWindowRow : OpenClaim := { program := "ytajekmpjebhaoaa", sum := "887c720f04e867c1e9b59c6084a947e25ce978bb3bcdf9e45ae71f1d9fd6a6fd", func := "loop.example/g01347/laws.FnExactLeastOfWindow", spec := "fnExactLeastOfWindow", unfollowed := true, recurses := true, apart := false }
def FnExactLeastOfWindowSaid : Prop := fnExactLeastOfWindowRow.holds Try.pinned (OpenSpec.ofChange fnExactLeastOfWindowSpec)

/-- ITS FALSE NEIGHBOUR: 'it returns false'. Refute it at one input. -/
def fnExactLeastOfWindowWrong : ChangeSpec := { name := "fnExactLeastOfWindow", fn := fun _ => fun
  | [d1, d2] => { results := [.lit (.bool false)], args := [d1, d2] }
  | _ => none }
def FnExactLeastOfWindowWrongFalsely : Prop := fnExactLeastOfWindowRow.holds Try.pinned (OpenSpec.ofChange fnExactLeastOfWindowWrong)

/-- 'laws.FnExactSampleSeen': WHATEVER THE INPUT: true; the input reads as it did. -/
def fnExactSampleSeenSpec : ChangeSpec := { name := "fnExactSampleSeen", fn := fun _ => fun
  | [d1, d2] => { results := [.lit (.bool true)], args := [d1, d2] }
  | _ => none }
def fnExactSampleSeenRow : OpenClaim := { program := "ytajekmpjebhaoaa", sum := "887c720f04e867c1e9b59c6084a947e25ce978bb3bcdf9e45ae71f1d9fd6a6fd", func := "loop.example/g01347/laws.FnExactSampleSeen", spec := "fnExactSampleSeen", unfollowed := true, recurses := true, apart := false }
def FnExactSampleSeenSaid : Prop := fnExactSampleSeenRow.holds Try.pinned (OpenSpec.ofChange fnExactSampleSeenSpec)

/-- ITS FALSE NEIGHBOUR: 'it returns false'. Refute it at one input. -/
def fnExactSampleSeenWrong : ChangeSpec := { name := "fnExactSampleSeen", fn := fun _ => fun
  | [d1, d2] => { results := [.lit (.bool false)], args := [d1, d2] }
  | _ => none }
def FnExactSampleSeenWrongFalsely : Prop := fnExactSampleSeenRow.holds Try.pinned (OpenSpec.ofChange fnExactSampleSeenWrong)

/- THE SECOND FORM. 'bulk': how many values and letters a reading holds, each counted each time it is reached (what is shared counts as often as it is met; a slice's spare places count too). A statement '..UptoSaid' is the law's where the arguments, and the package variables that the reading takes, are together of bulk at most 1048576: NARROWER than '..Said'. Prove '..Said' where nothing that the law and all that it calls make is longer than what came in: it says more and counts as full. Else prove '..UptoSaid'. A law counts once. -/
mutual
def uptoBulk {H : Type} : DataW H → Nat
  | .lit (.string bytes) => bytes.length + 1
  | .lit _ => 1
  | .nil => 1
  | .ptr d => uptoBulk d + 1
  | .slice elems spare => uptoBulkAll elems + uptoBulkAll spare + 1
  | .agg parts => uptoBulkAll parts + 1
  | .iface _ d => uptoBulk d + 1
  | .map entries => uptoBulkEntries entries + 1
  | .held _ => 1
def uptoBulkAll {H : Type} : List (DataW H) → Nat
  | [] => 0
  | d :: r => uptoBulk d + uptoBulkAll r
def uptoBulkEntries {H : Type} : List (Lit × DataW H) → Nat
  | [] => 0
  | x :: r => uptoBulkEntry x + uptoBulkEntries r
def uptoBulkEntry {H : Type} : Lit × DataW H → Nat
  | (.string bytes, d) => bytes.length + uptoBulk d + 1
  | (_, d) => uptoBulk d + 1
 end
def uptoSmall : (H : Type) → List (DataW H) → Bool := fun _ ds => decide (uptoBulkAll ds ≤ 1048576)
def OpenSpec.upto (s : _root_.Go.ChangeSpec) : _root_.Go.OpenSpec := { _root_.Go.OpenSpec.ofChange s with cond := some uptoSmall }

/-- 'laws.FnExactValidDecay', WHERE WHAT IT READS IS OF BULK AT MOST 1048576: true; the input reads as it did. -/
def fnExactValidDecayUptoRow : OpenClaim := { program := "ytajekmpjebhaoaa", sum := "887c720f04e867c1e9b59c6084a947e25ce978bb3bcdf9e45ae71f1d9fd6a6fd", func := "loop.example/g01347/laws.FnExactValidDecay", spec := "fnExactValidDecay", apart := false, narrowed := true }
def FnExactValidDecayUptoSaid : Prop := fnExactValidDecayUptoRow.holds Try.pinned (OpenSpec.upto fnExactValidDecaySpec)

/-- 'laws.FnExactSameDecay', WHERE WHAT IT READS IS OF BULK AT MOST 1048576: true; the input reads as it did. -/
def fnExactSameDecayUptoRow : OpenClaim := { program := "ytajekmpjebhaoaa", sum := "887c720f04e867c1e9b59c6084a947e25ce978bb3bcdf9e45ae71f1d9fd6a6fd", func := "loop.example/g01347/laws.FnExactSameDecay", spec := "fnExactSameDecay", inPlace := ["math.Float32bits", "math.Float64bits"], apart := false, narrowed := true }
def FnExactSameDecayUptoSaid : Prop := fnExactSameDecayUptoRow.holds Try.pinned (OpenSpec.upto fnExactSameDecaySpec)

/-- 'laws.FnExactIsList', WHERE WHAT IT READS IS OF BULK AT MOST 1048576: true; the input reads as it did. -/
def fnExactIsListUptoRow : OpenClaim := { program := "ytajekmpjebhaoaa", sum := "887c720f04e867c1e9b59c6084a947e25ce978bb3bcdf9e45ae71f1d9fd6a6fd", func := "loop.example/g01347/laws.FnExactIsList", spec := "fnExactIsList", unfollowed := true, recurses := true, apart := false, narrowed := true }
def FnExactIsListUptoSaid : Prop := fnExactIsListUptoRow.holds Try.pinned (OpenSpec.upto fnExactIsListSpec)

/-- 'laws.FnExactRankIn', WHERE WHAT IT READS IS OF BULK AT MOST 1048576: true; the input reads as it did. -/
def fnExactRankInUptoRow : OpenClaim := { program := "ytajekmpjebhaoaa", sum := "887c720f04e867c1e9b59c6084a947e25ce978bb3bcdf9e45ae71f1d9fd6a6fd", func := "loop.example/g01347/laws.FnExactRankIn", spec := "fnExactRankIn", unfollowed := true, recurses := true, apart := false, narrowed := true }
def FnExactRankInUptoSaid : Prop := fnExactRankInUptoRow.holds Try.pinned (OpenSpec.upto fnExactRankInSpec)

/-- 'laws.FnExactSameWindow', WHERE WHAT IT READS IS OF BULK AT MOST 1048576: true; the input reads as it did. -/
def fnExactSameWindowUptoRow : OpenClaim := { program := "ytajekmpjebhaoaa", sum := "887c720f04e867c1e9b59c6084a947e25ce978bb3bcdf9e45ae71f1d9fd6a6fd", func := "loop.example/g01347/laws.FnExactSameWindow", spec := "fnExactSameWindow", apart := false, narrowed := true }
def FnExactSameWindowUptoSaid : Prop := fnExactSameWindowUptoRow.holds Try.pinned (OpenSpec.upto fnExactSameWindowSpec)

/-- 'laws.FnExactCountExactly', WHERE WHAT IT READS IS OF BULK AT MOST 1048576: true; the input reads as it did. -/
def fnExactCountExactlyUptoRow : OpenClaim := { program := "ytajekmpjebhaoaa", sum := "887c720f04e867c1e9b59c6084a947e25ce978bb3bcdf9e45ae71f1d9fd6a6fd", func := "loop.example/g01347/laws.FnExactCountExactly", spec := "fnExactCountExactly", unfollowed := true, recurses := true, apart := false, narrowed := true }
def FnExactCountExactlyUptoSaid : Prop := fnExactCountExactlyUptoRow.holds Try.pinned (OpenSpec.upto fnExactCountExactlySpec)

/-- 'laws.FnExactDecayAt', WHERE WHAT IT READS IS OF BULK AT MOST 1048576: true; the input reads as it did. -/
def fnExactDecayAtUptoRow : OpenClaim := { program := "ytajekmpjebhaoaa", sum := "887c720f04e867c1e9b59c6084a947e25ce978bb3bcdf9e45ae71f1d9fd6a6fd", func := "loop.example/g01347/laws.FnExactDecayAt", spec := "fnExactDecayAt", inPlace := ["math.Float64frombits"], apart := false, narrowed := true }
def FnExactDecayAtUptoSaid : Prop := fnExactDecayAtUptoRow.holds Try.pinned (OpenSpec.upto fnExactDecayAtSpec)

/-- 'laws.FnDistinct', WHERE WHAT IT READS IS OF BULK AT MOST 1048576: true; the input reads as it did. -/
def fnDistinctUptoRow : OpenClaim := { program := "ytajekmpjebhaoaa", sum := "887c720f04e867c1e9b59c6084a947e25ce978bb3bcdf9e45ae71f1d9fd6a6fd", func := "loop.example/g01347/laws.FnDistinct", spec := "fnDistinct", inPlace := ["math.Float64frombits"], unfollowed := true, recurses := true, apart := false, narrowed := true }
def FnDistinctUptoSaid : Prop := fnDistinctUptoRow.holds Try.pinned (OpenSpec.upto fnDistinctSpec)

/-- 'laws.FnExactSmoothStream', WHERE WHAT IT READS IS OF BULK AT MOST 1048576: true; the input reads as it did. -/
def fnExactSmoothStreamUptoRow : OpenClaim := { program := "ytajekmpjebhaoaa", sum := "887c720f04e867c1e9b59c6084a947e25ce978bb3bcdf9e45ae71f1d9fd6a6fd", func := "loop.example/g01347/laws.FnExactSmoothStream", spec := "fnExactSmoothStream", unfollowed := true, recurses := true, apart := false, narrowed := true }
def FnExactSmoothStreamUptoSaid : Prop := fnExactSmoothStreamUptoRow.holds Try.pinned (OpenSpec.upto fnExactSmoothStreamSpec)

/-- 'laws.FnExactGreatestOfWindow', WHERE WHAT IT READS IS OF BULK AT MOST 1048576: true; the input reads as it did. -/
def fnExactGreatestOfWindowUptoRow : OpenClaim := { program := "ytajekmpjebhaoaa", sum := "887c720f04e867c1e9b59c6084a947e25ce978bb3bcdf9e45ae71f1d9fd6a6fd", func := "loop.example/g01347/laws.FnExactGreatestOfWindow", spec := "fnExactGreatestOfWindow", unfollowed := true, recurses := true, apart := false, narrowed := true }
def FnExactGreatestOfWindowUptoSaid : Prop := fnExactGreatestOfWindowUptoRow.holds Try.pinned (OpenSpec.upto fnExactGreatestOfWindowSpec)

/-- 'laws.FnExactLeastOfWindow', WHERE WHAT IT READS IS OF BULK AT MOST 1048576: true; the input reads as it did. -/
def fnExactLeastOfWindowUptoRow : OpenClaim := { program := "ytajekmpjebhaoaa", sum := "887c720f04e867c1e9b59c6084a947e25ce978bb3bcdf9e45ae71f1d9fd6a6fd", func := "loop.example/g01347/laws.FnExactLeastOfWindow", spec := "fnExactLeastOfWindow", unfollowed := true, recurses := true, apart := false, narrowed := true }
def FnExactLeastOfWindowUptoSaid : Prop := fnExactLeastOfWindowUptoRow.holds Try.pinned (OpenSpec.upto fnExactLeastOfWindowSpec)

/-- 'laws.FnExactSampleSeen', WHERE WHAT IT READS IS OF BULK AT MOST 1048576: true; the input reads as it did. -/
def fnExactSampleSeenUptoRow : OpenClaim := { program := "ytajekmpjebhaoaa", sum := "887c720f04e867c1e9b59c6084a947e25ce978bb3bcdf9e45ae71f1d9fd6a6fd", func := "loop.example/g01347/laws.FnExactSampleSeen", spec := "fnExactSampleSeen", unfollowed := true, recurses := true, apart := false, narrowed := true }
def FnExactSampleSeenUptoSaid : Prop := fnExactSampleSeenUptoRow.holds Try.pinned (OpenSpec.upto fnExactSampleSeenSpec)

end Rows
end Go.Proofs.Ytajekmpjebhaoaa
