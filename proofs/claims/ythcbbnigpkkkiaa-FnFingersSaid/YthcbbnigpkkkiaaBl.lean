/- Times, samples of streams, in the abstract machine. -/
import Derived.Test.YthcbbnigpkkkiaaZo
import Derived.Test.YthcbbnigpkkkiaaCb
namespace Go.Proofs.Ythcbbnigpkkkiaa
open Go.RowKit
set_option linter.unusedSimpArgs false
set_option linter.unusedVariables false
set_option maxRecDepth 100000

def timesB (xs : List Int) : Bool := (xs.all fun x => inB x 0 1000000) && ascB ltI xs
def stimesB (xs : List Int) : Bool := decide (1 ≤ xs.length) && decide (xs.length ≤ 128) && timesB xs
theorem timesB_bad {xs : List Int} {k : Nat} (hk : k < xs.length) (h : inB (ix xs k) 0 1000000 = false) : timesB xs = false := by
  unfold timesB; rw [not_all_of_ix (p := fun x => inB x 0 1000000) hk h]; rfl
theorem timesB_bad2 {xs : List Int} {k : Nat} (hk : k < xs.length) (h0 : 0 < k) (h : ix xs k < ix xs (k - 1)) : timesB xs = false := by
  unfold timesB
  obtain ⟨m, rfl⟩ : ∃ m, k = m + 1 := ⟨k - 1, by omega⟩
  rw [ascB_not (i := m) hk (by unfold ltI; simpa using h)]; simp
theorem timesB_good {xs : List Int} (h : ∀ j, j < xs.length → inB (ix xs j) 0 1000000 = true ∧ (0 < j → ix xs (j - 1) ≤ ix xs j)) : timesB xs = true := by
  unfold timesB
  rw [all_of_ix (p := fun x => inB x 0 1000000) fun j hj => (h j hj).1, (ascB_iff ltI xs).2 fun i hi => by have := (h (i + 1) hi).2 (by omega); unfold ltI; simpa using this]; rfl
def leI (a b : Int) : Bool := decide (a ≤ b)
def incB (xs : List Int) : Bool := ascB leI xs
end Go.Proofs.Ythcbbnigpkkkiaa
