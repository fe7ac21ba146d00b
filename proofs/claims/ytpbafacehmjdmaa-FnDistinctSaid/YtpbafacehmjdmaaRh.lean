/- What CountOfLeast tells is not negative. -/
import Derived.Test.YtpbafacehmjdmaaRg
namespace Go.Proofs.Ytpbafacehmjdmaa
open Go.RowKit
open Ieee
set_option linter.unusedSimpArgs false
set_option linter.unusedVariables false
set_option maxRecDepth 100000

theorem key32_bits {w : Nat} (h : rgF .f32 w < FloatKind.f32.format.infRung) : floatBits .quo .f32 w 1333788672 = floatBits .mul .f32 796917760 w := by
  obtain ⟨m, p, hr, hm⟩ := read32 h
  have r2 : FloatKind.f32.format.read 1333788672 = .number false 8388608 9 := by decide +kernel
  have r5 : FloatKind.f32.format.read 796917760 = .number false 8388608 (-55) := by decide +kernel
  have hl : (8388608 : Nat).log2 = 23 := by decide +kernel
  have hfb : FloatKind.f32.format.fractionBits = 23 := rfl
  have hm2 : m.log2 ≤ 24 := by
    rcases Nat.eq_zero_or_pos m with h0 | h0
    · subst h0; simp [Nat.log2_def]
    · have h1 : 2 ^ m.log2 ≤ m := Nat.log2_self_le (by omega)
      have h2 : 2 ^ m.log2 < 2 ^ 24 := Nat.lt_of_le_of_lt h1 (by omega)
      have := (Nat.pow_lt_pow_iff_right (a := 2) (by omega)).1 h2
      omega
  generalize hmore : FloatKind.f32.format.fractionBits + 2 + (8388608 : Nat).log2 - m.log2 = more
  rw [hfb, hl] at hmore
  obtain ⟨e, he⟩ : ∃ e, more = 23 + e := ⟨more - 23, by omega⟩
  have q1 : floatBits .quo .f32 w 1333788672 = some (FloatKind.f32.format.write (.number (sg .f32 w) (2 * (m <<< more / 8388608) + (m <<< more % 8388608 != 0).toNat) (p - 9 - more - 1))) := by
    show FloatKind.f32.format.div w 1333788672 = _
    unfold Format.div
    rw [hr, r2]
    rw [← hmore]
    simp only [Datum.quotient, if_neg (show ¬ (8388608 : Nat) = 0 by omega), hfb, hl, Option.map_some, Bool.xor_false]
  have q2 : floatBits .mul .f32 796917760 w = some (FloatKind.f32.format.write (.number (sg .f32 w) (8388608 * m) (-55 + p))) := by
    show FloatKind.f32.format.mul 796917760 w = _
    unfold Format.mul
    rw [hr, r5]
    simp only [Datum.product, Option.map_some, Bool.false_xor]
    try rfl
  rw [q1, q2]
  congr 1
  have hd : m <<< more = 8388608 * (m * 2 ^ e) := by
    rw [Nat.shiftLeft_eq, he, Nat.pow_add]
    have : (2 : Nat) ^ 23 = 8388608 := by decide
    rw [this]; ac_rfl
  rw [hd, Nat.mul_div_cancel_left _ (by omega), Nat.mul_mod_right]
  refine write_val _ _ _ _ _ _ 23 (e + 1) ?_ (by omega)
  have e23 : (2 : Nat) ^ 23 = 8388608 := by decide
  rw [e23, Nat.pow_succ]
  simp only [bne_self_eq_false, Bool.toNat_false, Nat.add_zero]
  ac_rfl
theorem pos_sg {k : FloatKind} {w : Nat} (h : 0 < vF k w) : sg k w = false ∧ 0 < rgF k w := by
  have h1 : sg k w = false := by
    cases e : sg k w with
    | false => rfl
    | true => rw [vF_neg e] at h; omega
  refine ⟨h1, ?_⟩
  rw [vF_pos h1] at h
  rcases Nat.eq_zero_or_pos (rgF k w) with h2 | h2
  · unfold mF at h
    rw [h2] at h
    have : mag k.format 0 = 0 := by cases k <;> decide +kernel
    rw [this] at h; omega
  · exact h2
theorem near_pos {t : Int} (h0 : 1 ≤ t) (h1 : t ≤ 4294967296) : Fi .f32 (FloatKind.f32.nearest t) ∧ 2 ^ 149 ≤ vF .f32 (FloatKind.f32.nearest t) ∧ vF .f32 (FloatKind.f32.nearest t) ≤ 2 ^ 181 := by
  have e : FloatKind.f32.nearest t = FloatKind.f32.format.write (.number false t.natAbs 0) := by
    have : decide (t < 0) = false := decide_eq_false (by omega)
    show FloatKind.f32.format.write (.number (decide (t < 0)) t.natAbs 0) = _
    rw [this]
  have v1 : vF .f32 1065353216 = 2 ^ 149 := by decide +kernel
  have v2 : vF .f32 1333788672 = 2 ^ 181 := by decide +kernel
  obtain ⟨n, rfl⟩ : ∃ n : Nat, t = n := ⟨t.toNat, by omega⟩
  rw [Int.natAbs_natCast] at e
  have g := write_bd .f32 false n 0 1065353216 1333788672 149 0 (by unfold Fi; decide) (by unfold Fi; decide) (by decide)
    (by rw [v1]; show _ ≤ ((n * 2 ^ 149 : Nat) : Int); have : 1 * 2 ^ 149 ≤ n * 2 ^ 149 := Nat.mul_le_mul_right _ (by omega); omega)
    (by rw [v2]; show ((n * 2 ^ 149 : Nat) : Int) ≤ _; have : n * 2 ^ 149 ≤ 4294967296 * 2 ^ 149 := Nat.mul_le_mul_right _ (by omega); omega)
  rw [← e, v1, v2] at g
  exact g
theorem few_num : ∀ n : Nat, n < 13 → isNum .f32 (FloatKind.f32.nearest (n : Int)) = true ∧ sg .f32 (FloatKind.f32.nearest (n : Int)) = false ∧ fGe .f32 (some (FloatKind.f32.nearest (n : Int))) (some 0) = true := by decide +kernel
theorem cvL_ge {xs : List Int} {room : Int} (h0 : xs.length < 13) (hr : 1 ≤ room ∧ room ≤ 12) (hk : 0 ≤ ix xs (xs.length - 1) ∧ ix xs (xs.length - 1) ≤ 4294967295) : fGe .f32 (cvL xs room) (some 0) = true := by
  unfold cvL
  split
  · exact (few_num _ h0).2.2
  · obtain ⟨y1, y2, y3⟩ := near_pos (t := ix xs (xs.length - 1) + 1) (by omega) (by omega)
    obtain ⟨y, hy⟩ : ∃ y, FloatKind.f32.nearest (ix xs (xs.length - 1) + 1) = y := ⟨_, rfl⟩
    rw [hy] at y1 y2 y3 ⊢
    have c1 : vF .f32 796917760 = 2 ^ 117 := by decide +kernel
    have c2 : vF .f32 1065353216 = 2 ^ 149 := by decide +kernel
    have c3 : lp .f32 = 149 := by decide +kernel
    obtain ⟨q, q1, q2, q3, q4⟩ := mul_bd (k := .f32) (x := 796917760) (y := y) (lo := 796917760) (hi := 1065353216) (by unfold Fi; decide) y1 (by unfold Fi; decide) (by unfold Fi; decide)
      (by rw [c1, c3]; have := Int.mul_le_mul_of_nonneg_left y2 (show (0 : Int) ≤ 2 ^ 117 by decide); exact this)
      (by rw [c1, c2, c3]; have := Int.mul_le_mul_of_nonneg_left y3 (show (0 : Int) ≤ 2 ^ 117 by decide); exact Int.le_trans this (by decide))
    have hq : opC .quo .f32 (some y) (some 1333788672) = some q := by
      show floatBits .quo .f32 y 1333788672 = some q
      rw [key32_bits y1]; exact q1
    rw [hq]
    rw [c1] at q3
    obtain ⟨s1, s2⟩ := pos_sg (k := .f32) (w := q) (Int.lt_of_lt_of_le (by decide) q3)
    obtain ⟨r, hr2⟩ : ∃ r : Nat, room - 1 = (r : Int) := ⟨(room - 1).toNat, by omega⟩
    rw [hr2]
    obtain ⟨f1, f2, f3⟩ := few_num r (by omega)
    obtain ⟨z, z1, z2, z3⟩ := div_sg (k := .f32) f1 q2 s2
    rw [f2, s1] at z3
    have hz : opC .quo .f32 (some (FloatKind.f32.nearest (r : Int))) (some q) = some z := z1
    rw [hz, fGe_not, fLt_key]
    have k0 : key FloatKind.f32.format 0 = 0 := by decide
    have kz : 0 ≤ key FloatKind.f32.format z := by
      have := key_eq FloatKind.f32.format z
      have hs : (z / FloatKind.f32.format.signWeight % 2 == 1) = false := z3
      rw [hs] at this
      rw [this]
      show (0 : Int) ≤ ((_ : Nat) : Int)
      exact Int.natCast_nonneg _
    have hno : ¬ key FloatKind.f32.format z < key FloatKind.f32.format 0 := by rw [k0]; omega
    rw [show decide (key FloatKind.f32.format z < key FloatKind.f32.format 0) = false from decide_eq_false hno]
    rfl
end Go.Proofs.Ytpbafacehmjdmaa
