/- The abstract machine: states of a drawn region told once. -/
import Derived.Test.YtpbafacehmjdmaaNr
namespace Go.Proofs.Ytpbafacehmjdmaa
open Go.RowKit

/-- What is done, as bits. -/
def mB (n m : Nat) : Array Bool := (Array.range n).map fun i => m.testBit i

theorem AAnyR_canon {P : Program} {T : Tab} {md : Region.Mode} {ops : List Oper} {res : List (Nat × Nat)} {Z : List Nat} {Hs : Hp} {f : Nat} {listed : Array Bool} {tm : List LV} {H : Hp} {K : List LV → Hp → Prop} (l : Array Bool) (hl : listed = l)
    (h : AAnyR P T md ops res Z Hs f l tm H K) : AAnyR P T md ops res Z Hs f listed tm H K := by rw [hl]; exact h
end Go.Proofs.Ytpbafacehmjdmaa
