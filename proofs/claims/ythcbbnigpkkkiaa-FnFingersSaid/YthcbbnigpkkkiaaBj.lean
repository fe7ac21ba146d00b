/- Numbers: finite ones, shares, lists of them; in the abstract machine. -/
import Derived.Test.YthcbbnigpkkkiaaZo
import Derived.Test.YthcbbnigpkkkiaaZp
import Derived.Test.YthcbbnigpkkkiaaZn
namespace Go.Proofs.Ythcbbnigpkkkiaa
open Go.RowKit
set_option linter.unusedSimpArgs false
set_option linter.unusedVariables false
set_option maxRecDepth 100000

def finO (o : Option Nat) : Bool := match o with
  | none => false
  | some b => finB .f32 b
theorem finO_sub (o : Option Nat) : fEq .f32 (opC .sub .f32 o o) (some 0) = finO o := by
  cases o with
  | none => rfl
  | some b =>
    have h : opC .sub .f32 (some b) (some b) = FloatKind.f32.format.sub b b := rfl
    rw [h, sub_self, finO]
    split
    · rename_i h; rw [h]; exact fEq_refl _ _
    · rename_i h; rw [fEq_none]; simpa using h
theorem finO_num {o : Option Nat} (h : finO o = true) : ∃ b, o = some b ∧ finB .f32 b = true := by
  cases o with
  | none => cases h
  | some b => exact ⟨b, rfl, h⟩
theorem fGe_eq (k : FloatKind) (a b : Option Nat) : fGe k a b = fLe k b a := by
  unfold fGe fLe ordC
  cases a <;> cases b <;> simp
  rename_i a b
  rcases Int.lt_trichotomy (key k.format a) (key k.format b) with h | h | h
  · rw [cmp_lt h, cmp_gt h]; rfl
  · rw [cmp_eq h, cmp_eq h.symm]; rfl
  · rw [cmp_gt h, cmp_lt h]; rfl
theorem fGt_eq (k : FloatKind) (a b : Option Nat) : fGt k a b = fLt k b a := by
  unfold fGt fLt ordC
  cases a <;> cases b <;> simp
  rename_i a b
  rcases Int.lt_trichotomy (key k.format a) (key k.format b) with h | h | h
  · rw [cmp_lt h, cmp_gt h]; rfl
  · rw [cmp_eq h, cmp_eq h.symm]; rfl
  · rw [cmp_gt h, cmp_lt h]; rfl
/-- The key of a number. -/
def kO (o : Option Nat) : Int := match o with
  | none => 0
  | some b => key FloatKind.f32.format b
theorem fLt_kO {a b : Option Nat} (ha : finO a = true) (hb : finO b = true) : fLt .f32 a b = decide (kO a < kO b) := by
  obtain ⟨a, rfl, _⟩ := finO_num ha
  obtain ⟨b, rfl, _⟩ := finO_num hb
  have h : fLt .f32 (some a) (some b) = (some (compare (kO (some a)) (kO (some b))) == some .lt) := rfl
  rw [h]
  rcases Int.lt_trichotomy (kO (some a)) (kO (some b)) with h | h | h
  · rw [cmp_lt h, decide_eq_true h]; rfl
  · rw [cmp_eq h, decide_eq_false (by omega)]; rfl
  · rw [cmp_gt h, decide_eq_false (by omega)]; rfl
theorem fLe_kO {a b : Option Nat} (ha : finO a = true) (hb : finO b = true) : fLe .f32 a b = decide (kO a ≤ kO b) := by
  obtain ⟨a, rfl, _⟩ := finO_num ha
  obtain ⟨b, rfl, _⟩ := finO_num hb
  have h : fLe .f32 (some a) (some b) = (some (compare (kO (some a)) (kO (some b))) == some .lt || some (compare (kO (some a)) (kO (some b))) == some .eq) := rfl
  rw [h]
  rcases Int.lt_trichotomy (kO (some a)) (kO (some b)) with h | h | h
  · rw [cmp_lt h, decide_eq_true (by omega)]; rfl
  · rw [cmp_eq h, decide_eq_true (by omega)]; rfl
  · rw [cmp_gt h, decide_eq_false (by omega)]; rfl
def listB (xs : List (Option Nat)) : Bool := decide (1 ≤ xs.length) && decide (xs.length ≤ 256) && xs.all finO
theorem listB_len {xs : List (Option Nat)} (h : listB xs = true) : 1 ≤ xs.length ∧ xs.length ≤ 256 ∧ xs.all finO = true := by
  unfold listB at h; simp only [Bool.and_eq_true, decide_eq_true_eq] at h; exact ⟨h.1.1, h.1.2, h.2⟩
def streamFB (xs : List (Option Nat)) : Bool := decide (1 ≤ xs.length) && decide (xs.length ≤ 128) && xs.all finO
def shareB (o : Option Nat) : Bool := fGe .f32 o (some 0) && fLe .f32 o (some 1065353216)
def orZ (o : Option Nat) : Option Nat := if finO o then o else some 0
end Go.Proofs.Ythcbbnigpkkkiaa
