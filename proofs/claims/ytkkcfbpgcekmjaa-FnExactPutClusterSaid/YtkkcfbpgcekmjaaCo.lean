/- PutCluster: what is put where, in plain words. -/
import Derived.Test.YtkkcfbpgcekmjaaIy
import Derived.Test.YtkkcfbpgcekmjaaEd
import Derived.Test.YtkkcfbpgcekmjaaBq
namespace Go.Proofs.Ytkkcfbpgcekmjaa
open Go.RowKit
set_option linter.unusedSimpArgs false
set_option linter.unusedVariables false
set_option maxRecDepth 100000

/-- Where a number is put. -/
def pcP (ms : List (Option Nat)) (z : Option Nat) : Nat := ms.countP fun y => fLe .f32 y z
def pcT (r : Int) (ms : List (Option Nat)) (cs : List Int) (z : Option Nat) : List (Option Nat) × List Int :=
  if 2 * r < ((ms.length + 1 : Nat) : Int) then shR r (insA ms (pcP ms z) z) (insA cs (pcP ms z) 1) else (insA ms (pcP ms z) z, insA cs (pcP ms z) 1)
def pcOk (r : Int) (ms : List (Option Nat)) (cs : List Int) (z : Option Nat) : Bool := clusB r ms cs && finO z && clusB r (pcT r ms cs z).1 (pcT r ms cs z).2
def pcM (r : Int) (ms : List (Option Nat)) (cs : List Int) (z : Option Nat) : List (Option Nat) := if pcOk r ms cs z then (pcT r ms cs z).1 else []
def pcC (r : Int) (ms : List (Option Nat)) (cs : List Int) (z : Option Nat) : List Int := if pcOk r ms cs z then (pcT r ms cs z).2 else []
theorem pc_len (r : Int) (ms : List (Option Nat)) (cs : List Int) (z : Option Nat) : (pcM r ms cs z).length ≤ 256 ∧ (pcC r ms cs z).length ≤ 256 := by
  unfold pcM pcC
  cases e : pcOk r ms cs z
  · exact ⟨Nat.zero_le _, Nat.zero_le _⟩
  · unfold pcOk at e
    obtain ⟨h1, h2⟩ := Bool.and_eq_true_iff.1 e
    obtain ⟨_, h3, h4, _⟩ := clusB_all h2
    simp only [if_true]
    omega
theorem sumI_app (a b : List Int) : sumI (a ++ b) = sumI a + sumI b := by
  have key : ∀ (b : List Int) (s t : Int), b.foldl (· + ·) (s + t) = s + b.foldl (· + ·) t := by
    intro b
    induction b with
    | nil => intro s t; rfl
    | cons x b ih => intro s t; simp only [List.foldl_cons]; rw [Int.add_assoc, ih]
  unfold sumI
  rw [List.foldl_append]
  have := key b (a.foldl (· + ·) 0) 0
  rwa [Int.add_zero] at this
theorem sumI_ins (cs : List Int) (i : Nat) (x : Int) : sumI (insA cs i x) = sumI cs + x := by
  have h := sumI_app (cs.take i) (cs.drop i)
  rw [List.take_append_drop] at h
  have h2 := sumI_app [x] (cs.drop i)
  have h3 : sumI [x] = x := by simp [sumI]
  rw [h]
  unfold insA
  rw [sumI_app, show x :: cs.drop i = [x] ++ cs.drop i from rfl, h2, h3]
  omega
end Go.Proofs.Ytkkcfbpgcekmjaa
