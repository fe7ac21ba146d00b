/- Powers of two, windows that are valid, in the abstract machine. -/
import Derived.Test.YtpbafacehmjdmaaBl
namespace Go.Proofs.Ytpbafacehmjdmaa
open Go.RowKit
set_option linter.unusedSimpArgs false
set_option linter.unusedVariables false
set_option maxRecDepth 100000

/-! Powers of two. -/
theorem land_even (m : Nat) (h : 0 < m) : (2 * m) &&& (2 * m - 1) = 2 * (m &&& (m - 1)) := by
  refine Nat.eq_of_testBit_eq fun i => ?_
  cases i with
  | zero => simp [Nat.testBit_and]
  | succ i =>
    have e : (2 * m - 1) / 2 = m - 1 := by omega
    rw [Nat.testBit_and, Nat.testBit_succ, Nat.testBit_succ, Nat.testBit_succ, e]
    simp [Nat.testBit_and]
theorem land_odd (m : Nat) : (2 * m + 1) &&& (2 * m) = 2 * m := by
  refine Nat.eq_of_testBit_eq fun i => ?_
  cases i with
  | zero => simp [Nat.testBit_and]
  | succ i =>
    have e : (2 * m + 1) / 2 = m := by omega
    rw [Nat.testBit_and, Nat.testBit_succ, Nat.testBit_succ, e]
    simp
theorem land_pow : ∀ (n : Nat), 0 < n → (n &&& (n - 1) = 0 ↔ ∃ k, n = 2 ^ k) := by
  intro n
  induction n using Nat.strongRecOn with
  | _ n ih =>
    intro hn
    rcases Nat.mod_two_eq_zero_or_one n with h | h
    · obtain ⟨m, rfl⟩ : ∃ m, n = 2 * m := ⟨n / 2, by omega⟩
      rw [land_even m (by omega)]
      have := ih m (by omega) (by omega)
      constructor
      · intro h0
        obtain ⟨k, hk⟩ := this.1 (by omega)
        exact ⟨k + 1, by rw [hk, Nat.pow_succ]; omega⟩
      · rintro ⟨k, hk⟩
        cases k with
        | zero => simp at hk; omega
        | succ k => have := this.2 ⟨k, by rw [Nat.pow_succ] at hk; omega⟩; omega
    · obtain ⟨m, rfl⟩ : ∃ m, n = 2 * m + 1 := ⟨n / 2, by omega⟩
      rw [Nat.add_sub_cancel, land_odd]
      constructor
      · intro h0; exact ⟨0, by omega⟩
      · rintro ⟨k, hk⟩
        cases k with
        | zero => simp at hk; omega
        | succ k => rw [Nat.pow_succ] at hk; omega
theorem ibits_and (a b : Nat) (ha : a < 9223372036854775808) (hb : b < 9223372036854775808) : ibits .and .i64 (a : Int) (b : Int) = ((a &&& b : Nat) : Int) := by
  have h1 : a &&& b ≤ a := Nat.and_le_left
  have e0 : ibits .and .i64 (a : Int) (b : Int) = IntKind.i64.wrap ((BitVec.ofInt 64 (a : Int) &&& BitVec.ofInt 64 (b : Int)).toNat : Int) := rfl
  have e1 : (BitVec.ofInt 64 (a : Int) &&& BitVec.ofInt 64 (b : Int)).toNat = a &&& b := by
    rw [BitVec.toNat_and]
    simp only [BitVec.ofInt_natCast, BitVec.toNat_ofNat]
    rw [Nat.mod_eq_of_lt (by omega), Nat.mod_eq_of_lt (by omega)]
  rw [e0, e1, IntKind.wrap_i64]; omega
def powB (n : Int) : Bool := inB n 1 1048576 && decide (ibits .and .i64 n (n - 1) = 0)
theorem powB_iff (n : Int) : powB n = true ↔ ∃ k : Nat, k ≤ 20 ∧ n = ((2 ^ k : Nat) : Int) := by
  unfold powB inB
  simp only [Bool.and_eq_true, decide_eq_true_eq]
  constructor
  · rintro ⟨⟨h1, h2⟩, h3⟩
    obtain ⟨m, rfl⟩ : ∃ m : Nat, n = (m : Int) := ⟨n.toNat, by omega⟩
    have e : ((m : Int) - 1) = ((m - 1 : Nat) : Int) := by omega
    rw [e, ibits_and m (m - 1) (by omega) (by omega)] at h3
    obtain ⟨k, hk⟩ := (land_pow m (by omega)).1 (by omega)
    refine ⟨k, ?_, by rw [hk]⟩
    have : 2 ^ k ≤ 2 ^ 20 := by rw [← hk]; show m ≤ 1048576; omega
    exact (Nat.pow_le_pow_iff_right (by omega)).1 this
  · rintro ⟨k, hk, rfl⟩
    have h1 : 1 ≤ 2 ^ k := Nat.one_le_two_pow
    have h2 : 2 ^ k ≤ 1048576 := by have := Nat.pow_le_pow_right (n := 2) (by omega) hk; simpa using this
    have e : (((2 ^ k : Nat) : Int) - 1) = ((2 ^ k - 1 : Nat) : Int) := by omega
    refine ⟨⟨by omega, by omega⟩, ?_⟩
    rw [e, ibits_and _ _ (by omega) (by omega), (land_pow _ (by omega)).2 ⟨k, rfl⟩]; rfl
def pow1B (n : Int) : Bool := (List.range 21).any fun k => decide (n = ((2 ^ (0 + k) : Nat) : Int))
def pow2B (n : Int) : Bool := (List.range 8).any fun k => decide (n = ((2 ^ (1 + k) : Nat) : Int))
def pow16B (n : Int) : Bool := (List.range 5).any fun k => decide (n = ((2 ^ (4 + k) : Nat) : Int))
theorem pow1B_powB (n : Int) : pow1B n = powB n := by
  rw [Bool.eq_iff_iff, powB_iff]
  unfold pow1B
  rw [List.any_eq_true]
  constructor
  · rintro ⟨k, hk, h⟩
    exact ⟨k, by rw [List.mem_range] at hk; omega, by simpa using h⟩
  · rintro ⟨k, hk, h⟩
    exact ⟨k, by rw [List.mem_range]; omega, by simpa using h⟩
/-! Windows. -/
def runW (zs : List Int) : Nat → Int
  | 0 => 0
  | k + 1 => if k = 0 ∨ ix zs k ≠ ix zs (k - 1) then 1 else runW zs k + 1
theorem runW_bound (zs : List Int) : ∀ k : Nat, 0 ≤ runW zs k ∧ runW zs k ≤ k
  | 0 => by simp [runW]
  | k + 1 => by
    have := runW_bound zs k
    rw [runW]; split <;> omega
def goodW (zs : List Int) (p : Int) (k : Nat) : Bool := powB (ix zs k) && !(decide (0 < k) && decide (ix zs (k - 1) < ix zs k)) && decide (runW zs (k + 1) ≤ p + 1)
def sizesB (zs : List Int) (p : Int) : Bool := (List.range zs.length).all (goodW zs p)
theorem sizesB_bad {zs : List Int} {p : Int} {k : Nat} (hk : k < zs.length) (h : goodW zs p k = false) : sizesB zs p = false := by
  unfold sizesB; rw [List.all_eq_false]; exact ⟨k, by rw [List.mem_range]; exact hk, by simp [h]⟩
theorem sizesB_good {zs : List Int} {p : Int} (h : ∀ k, k < zs.length → goodW zs p k = true) : sizesB zs p = true := by
  unfold sizesB; rw [List.all_eq_true]; exact fun k hk => h k (by rw [List.mem_range] at hk; exact hk)
def winB (l p : Int) (ts zs : List Int) : Bool := inB l 1 1000000 && inB p 1 16 && decide (ts.length ≤ 128) && decide (zs.length = ts.length) && timesB ts && sizesB zs p
end Go.Proofs.Ytpbafacehmjdmaa
