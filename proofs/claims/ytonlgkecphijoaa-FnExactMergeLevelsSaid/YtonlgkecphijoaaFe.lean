/- Numbers with the same value are rounded alike; half of a number. -/
import Derived.Test.YtonlgkecphijoaaFc
namespace Go.Proofs.Ytonlgkecphijoaa
open Ieee
set_option linter.unusedSimpArgs false
set_option linter.unusedVariables false
set_option maxRecDepth 100000

theorem log2_two (n : Nat) (h : n ≠ 0) : (2 * n).log2 = n.log2 + 1 := by
  rw [Nat.log2_def, if_pos (by omega), Nat.mul_div_cancel_left _ (by omega)]
theorem cut_two (n d : Nat) (h : n ≠ 0) : Toward.even.cut false (2 * n) (d + 1) = Toward.even.cut false n d := by
  unfold Toward.cut
  simp only [Nat.shiftLeft_eq, Nat.one_mul, log2_two n h]
  rw [show min (d + 1) (n.log2 + 1 + 2) = min d (n.log2 + 2) + 1 by omega, Nat.pow_succ]
  generalize 2 ^ min d (n.log2 + 2) = gap
  rw [Nat.mul_comm gap 2, Nat.mul_div_mul_left _ _ (by omega), Nat.mul_mod_mul_left]
  generalize n / gap = low
  generalize n % gap = rest
  have e1 : decide (2 * gap < 2 * (2 * rest)) = decide (gap < 2 * rest) := decide_eq_decide.2 (by omega)
  have e2 : (2 * gap == 2 * (2 * rest)) = (gap == 2 * rest) := by
    rw [Bool.eq_iff_iff]; simp only [beq_iff_eq]; omega
  simp only [e1, e2]
theorem rung_two (f : Format) (m : Nat) (p : Int) : rungOf f (2 * m) (p - 1) = rungOf f m p := by
  by_cases hm : m = 0
  · subst hm; simp [rungOf]
  unfold rungOf
  rw [if_neg (by omega), if_neg hm]
  simp only [log2_two m hm, Nat.shiftLeft_eq]
  rw [show max (p - 1 + ((m.log2 + 1 : Nat) : Int) - f.fractionBits) f.leastPlace = max (p + m.log2 - f.fractionBits) f.leastPlace by omega]
  generalize max (p + m.log2 - f.fractionBits) f.leastPlace = last
  congr 2
  rcases (show last < p ∨ p ≤ last by omega) with h | h
  · rw [show (last - (p - 1)).toNat = 0 by omega, show (last - p).toNat = 0 by omega, show (p - last).toNat = (p - 1 - last).toNat + 1 by omega, Nat.pow_succ]
    congr 1
    ac_rfl
  · rw [show (p - 1 - last).toNat = 0 by omega, show (p - last).toNat = 0 by omega, show (last - (p - 1)).toNat = (last - p).toNat + 1 by omega, Nat.pow_zero, Nat.mul_one, Nat.mul_one]
    exact cut_two m _ hm
theorem rung_pow (f : Format) (m : Nat) (p : Int) : ∀ k : Nat, rungOf f (2 ^ k * m) (p - (k : Nat)) = rungOf f m p
  | 0 => by simp
  | k + 1 => by
    rw [Nat.pow_succ, Nat.mul_comm (2 ^ k) 2, Nat.mul_assoc, show p - ((k + 1 : Nat) : Int) = p - (k : Nat) - 1 by omega, rung_two, rung_pow f m p k]
theorem write_val (f : Format) (s : Bool) (m n : Nat) (p q : Int) (a b : Nat) (h : 2 ^ a * m = 2 ^ b * n) (hp : p - (a : Nat) = q - (b : Nat)) : f.write (.number s m p) = f.write (.number s n q) := by
  show f.nearest s m p = f.nearest s n q
  rw [nearest_rung, nearest_rung, ← rung_pow f m p a, ← rung_pow f n q b, h, hp]
theorem read32 {w : Nat} (h : rgF .f32 w < FloatKind.f32.format.infRung) : ∃ m p, FloatKind.f32.format.read w = .number (sg .f32 w) m p ∧ m < 16777216 := by
  unfold rgF at h
  unfold Format.read
  have hb : FloatKind.f32.format.binade = 8388608 := by decide
  by_cases h1 : w % FloatKind.f32.format.signWeight < FloatKind.f32.format.binade
  · exact ⟨_, _, by simp only [if_pos h1]; rfl, by omega⟩
  · refine ⟨_, _, by simp only [if_neg h1, if_pos h]; rfl, ?_⟩
    rw [hb]; omega
theorem half_bits {w : Nat} (h : rgF .f32 w < FloatKind.f32.format.infRung) : floatBits .quo .f32 w 1073741824 = floatBits .mul .f32 1056964608 w := by
  obtain ⟨m, p, hr, hm⟩ := read32 h
  have r2 : FloatKind.f32.format.read 1073741824 = .number false 8388608 (-22) := by decide +kernel
  have r5 : FloatKind.f32.format.read 1056964608 = .number false 8388608 (-24) := by decide +kernel
  have hl : (8388608 : Nat).log2 = 23 := by decide +kernel
  have hfb : FloatKind.f32.format.fractionBits = 23 := rfl
  have hm2 : m.log2 ≤ 24 := by
    rcases Nat.eq_zero_or_pos m with h0 | h0
    · subst h0; simp [Nat.log2_def]
    · have h1 : 2 ^ m.log2 ≤ m := Nat.log2_self_le (by omega)
      have h2 : 2 ^ m.log2 < 2 ^ 24 := Nat.lt_of_le_of_lt h1 (by omega)
      have := (Nat.pow_lt_pow_iff_right (a := 2) (by omega)).1 h2
      omega
  generalize hmore : FloatKind.f32.format.fractionBits + 2 + (8388608 : Nat).log2 - m.log2 = more
  rw [hfb, hl] at hmore
  obtain ⟨e, he⟩ : ∃ e, more = 23 + e := ⟨more - 23, by omega⟩
  have q1 : floatBits .quo .f32 w 1073741824 = some (FloatKind.f32.format.write (.number (sg .f32 w) (2 * (m <<< more / 8388608) + (m <<< more % 8388608 != 0).toNat) (p - (-22) - more - 1))) := by
    show FloatKind.f32.format.div w 1073741824 = _
    unfold Format.div
    rw [hr, r2]
    rw [← hmore]
    simp only [Datum.quotient, if_neg (show ¬ (8388608 : Nat) = 0 by omega), hfb, hl, Option.map_some, Bool.xor_false]
  have q2 : floatBits .mul .f32 1056964608 w = some (FloatKind.f32.format.write (.number (sg .f32 w) (8388608 * m) (-24 + p))) := by
    show FloatKind.f32.format.mul 1056964608 w = _
    unfold Format.mul
    rw [hr, r5]
    simp only [Datum.product, Option.map_some, Bool.false_xor]
    try rfl
  rw [q1, q2]
  congr 1
  have hd : m <<< more = 8388608 * (m * 2 ^ e) := by
    rw [Nat.shiftLeft_eq, he, Nat.pow_add]
    have : (2 : Nat) ^ 23 = 8388608 := by decide
    rw [this]; ac_rfl
  rw [hd, Nat.mul_div_cancel_left _ (by omega), Nat.mul_mod_right]
  refine write_val _ _ _ _ _ _ 23 (e + 1) ?_ (by omega)
  have e23 : (2 : Nat) ^ 23 = 8388608 := by decide
  rw [e23, Nat.pow_succ]
  simp only [bne_self_eq_false, Bool.toNat_false, Nat.add_zero]
  ac_rfl
theorem nearest_fin {n : Int} (h0 : -16777216 ≤ n) (h1 : n ≤ 16777216) : rgF .f32 (FloatKind.f32.nearest n) < FloatKind.f32.format.infRung := by
  have hm : mag FloatKind.f32.format 1266679808 = 16777216 * 2 ^ 149 := by decide +kernel
  have e : FloatKind.f32.nearest n = FloatKind.f32.format.write (.number (decide (n < 0)) n.natAbs 0) := rfl
  rw [e]
  obtain ⟨g1, g2⟩ := write_le .f32 (decide (n < 0)) n.natAbs 0 1266679808 149 0 (by decide) (by decide) (by rw [hm, Nat.pow_zero, Nat.mul_one]; exact Nat.mul_le_mul_right _ (by omega))
  have : (1266679808 : Nat) < FloatKind.f32.format.infRung := by decide
  omega
theorem half_op {n : Int} (h0 : -16777216 ≤ n) (h1 : n ≤ 16777216) : opC .quo .f32 (some (FloatKind.f32.nearest n)) (some 1073741824) = opC .mul .f32 (some 1056964608) (some (FloatKind.f32.nearest n)) := by
  show floatBits .quo .f32 _ _ = floatBits .mul .f32 _ _
  exact half_bits (nearest_fin h0 h1)
end Go.Proofs.Ytonlgkecphijoaa
