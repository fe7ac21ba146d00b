/- Numbers as bits, equal numbers, in the abstract machine. -/
import Derived.Test.YthcbbnigpkkkiaaBj
import Derived.Test.YthcbbnigpkkkiaaSame
import Derived.Laws.Externs
namespace Go.Proofs.Ythcbbnigpkkkiaa
open Go.RowKit
set_option linter.unusedSimpArgs false
set_option linter.unusedVariables false
set_option maxRecDepth 100000

theorem arr1 {R : LV → Value → Prop} {x : LV} {a : Array Value} (h : All2 R [x] a.toList) : ∃ v, a = #[v] ∧ R x v := by
  obtain ⟨l⟩ := a
  match l, h with
  | [v], h => exact ⟨v, rfl, h.1⟩
def bitsO (o : Option Nat) : Int := match o with
  | none => 2143289344
  | some b => (b : Int)
def sameO (a b : Option Nat) : Bool := decide (a = b)
end Go.Proofs.Ythcbbnigpkkkiaa
