/- Sums and products of numbers that are finite; orders of what is a number. -/
import Derived.Test.YtpbafacehmjdmaaZg
import Derived.Test.YtpbafacehmjdmaaBj
namespace Go.Proofs.Ytpbafacehmjdmaa
open Ieee
set_option linter.unusedSimpArgs false
set_option linter.unusedVariables false
set_option maxRecDepth 100000

theorem fLe_key (k : FloatKind) (a b : Nat) : fLe k (some a) (some b) = decide (key k.format a ≤ key k.format b) := by
  have h : fLe k (some a) (some b) = (some (compare (key k.format a) (key k.format b)) == some .lt || some (compare (key k.format a) (key k.format b)) == some .eq) := rfl
  rw [h]
  rcases Int.lt_trichotomy (key k.format a) (key k.format b) with h | h | h
  · rw [cmp_lt h, decide_eq_true (by omega)]; rfl
  · rw [cmp_eq h, decide_eq_true (by omega)]; rfl
  · rw [cmp_gt h, decide_eq_false (by omega)]; rfl
theorem fGe_not (k : FloatKind) (a b : Nat) : fGe k (some a) (some b) = !fLt k (some a) (some b) := by
  rw [fGe_eq, fLe_key, fLt_key, ← decide_not]
  exact decide_eq_decide.2 (by omega)
theorem fLe_not (k : FloatKind) (a b : Nat) : fLe k (some a) (some b) = !fLt k (some b) (some a) := by
  rw [← fGe_eq, fGe_not]
theorem key_cases (k : FloatKind) (w : Nat) : key k.format w = ((rgF k w : Nat) : Int) ∨ key k.format w = -((rgF k w : Nat) : Int) := by
  unfold key rgF; split
  · exact Or.inr rfl
  · exact Or.inl rfl
theorem share_U {o : Option Nat} (h : fGe .f32 o (some 0) = true) (h2 : fLe .f32 o (some 1065353216) = true) : ∃ w, o = some w ∧ U .f32 w := by
  cases o with
  | none => cases h
  | some w =>
    refine ⟨w, rfl, ?_⟩
    rw [fGe_eq, fLe_key, decide_eq_true_eq] at h
    rw [fLe_key, decide_eq_true_eq] at h2
    have k0 : key FloatKind.f32.format 0 = 0 := by decide +kernel
    have k1 : key FloatKind.f32.format 1065353216 = 1065353216 := by decide +kernel
    rw [k0] at h
    rw [k1] at h2
    show rgF .f32 w ≤ 1065353216
    rcases key_cases .f32 w with e | e <;> omega
theorem nearest_rg {n : Int} (h0 : -16777216 ≤ n) (h1 : n ≤ 16777216) : rgF .f32 (FloatKind.f32.nearest n) ≤ 1266679808 := by
  have hm : mag FloatKind.f32.format 1266679808 = 16777216 * 2 ^ 149 := by decide +kernel
  have e : FloatKind.f32.nearest n = FloatKind.f32.format.write (.number (decide (n < 0)) n.natAbs 0) := rfl
  rw [e]
  exact (write_le .f32 (decide (n < 0)) n.natAbs 0 1266679808 149 0 (by decide) (by decide) (by rw [hm, Nat.pow_zero, Nat.mul_one]; exact Nat.mul_le_mul_right _ (by omega))).1
theorem mulU_le {k : FloatKind} {x y r : Nat} (hr : r < k.format.infRung) (hx : rgF k x ≤ r) (hy : U k y) : ∃ z, floatBits .mul k x y = some z ∧ rgF k z ≤ r := by
  obtain ⟨m, i, fx⟩ := fin_of (Nat.lt_of_le_of_lt hx hr)
  obtain ⟨n, j, fy⟩ := fin_of hy.lt
  have hz : floatBits .mul k x y = some (k.format.write (.number (sg k x ^^ sg k y) (m * n) (-((lp k : Nat) : Int) + (i : Int) + (-((lp k : Nat) : Int) + (j : Int))))) := by
    show k.format.mul x y = _
    unfold Format.mul
    rw [fx.read, fy.read]; rfl
  have h1 : m * 2 ^ i ≤ mag k.format r := by rw [fx.val]; exact mag_le _ hx
  have h2 := hy.mag fy
  obtain ⟨g1, g2⟩ := write_le k (sg k x ^^ sg k y) (m * n) (-((lp k : Nat) : Int) + (i : Int) + (-((lp k : Nat) : Int) + (j : Int))) r (i + j) (lp k) (Nat.le_of_lt hr) (by omega) (by
    rw [Nat.pow_add]
    have := Nat.mul_le_mul h1 h2
    calc m * n * (2 ^ i * 2 ^ j) = m * 2 ^ i * (n * 2 ^ j) := by ac_rfl
      _ ≤ mag k.format r * 2 ^ lp k := this)
  exact ⟨_, hz, g1⟩
theorem Umul_le {k : FloatKind} {x y r : Nat} (hr : r < k.format.infRung) (hx : rgF k x ≤ r) (hy : U k y) : ∃ z, floatBits .mul k y x = some z ∧ rgF k z ≤ r := by
  obtain ⟨m, i, fx⟩ := fin_of (Nat.lt_of_le_of_lt hx hr)
  obtain ⟨n, j, fy⟩ := fin_of hy.lt
  have hz : floatBits .mul k y x = some (k.format.write (.number (sg k y ^^ sg k x) (n * m) (-((lp k : Nat) : Int) + (j : Int) + (-((lp k : Nat) : Int) + (i : Int))))) := by
    show k.format.mul y x = _
    unfold Format.mul
    rw [fx.read, fy.read]; rfl
  have h1 : m * 2 ^ i ≤ mag k.format r := by rw [fx.val]; exact mag_le _ hx
  have h2 := hy.mag fy
  obtain ⟨g1, g2⟩ := write_le k (sg k y ^^ sg k x) (n * m) (-((lp k : Nat) : Int) + (j : Int) + (-((lp k : Nat) : Int) + (i : Int))) r (i + j) (lp k) (Nat.le_of_lt hr) (by omega) (by
    rw [Nat.pow_add]
    have := Nat.mul_le_mul h1 h2
    calc n * m * (2 ^ i * 2 ^ j) = m * 2 ^ i * (n * 2 ^ j) := by ac_rfl
      _ ≤ mag k.format r * 2 ^ lp k := this)
  exact ⟨_, hz, g1⟩
theorem add_some {k : FloatKind} {x y : Nat} (hx : rgF k x < k.format.infRung) (hy : rgF k y < k.format.infRung) : ∃ z, floatBits .add k x y = some z := by
  obtain ⟨m, i, fx⟩ := fin_of hx
  obtain ⟨n, j, fy⟩ := fin_of hy
  have hz : floatBits .add k x y = ((k.format.read x).sum (k.format.read y)).map k.format.write := rfl
  rw [hz, fx.read, fy.read]
  exact ⟨_, rfl⟩
theorem r24_lt : 1266679808 < FloatKind.f32.format.infRung := by decide
theorem U_half : U .f32 1056964608 := by unfold U; decide
theorem mid_some {s n : Int} (h0 : -16777216 ≤ s) (h1 : s ≤ 16777216) (h2 : -16777216 ≤ n) (h3 : n ≤ 16777216) :
    ∃ z, opC .add .f32 (some (FloatKind.f32.nearest s)) (opC .mul .f32 (some 1056964608) (some (FloatKind.f32.nearest n))) = some z := by
  obtain ⟨z, e, hz⟩ := Umul_le (k := .f32) r24_lt (nearest_rg h2 h3) U_half
  have e2 : opC .mul .f32 (some 1056964608) (some (FloatKind.f32.nearest n)) = some z := e
  rw [e2]
  exact add_some (Nat.lt_of_le_of_lt (nearest_rg h0 h1) r24_lt) (Nat.lt_of_le_of_lt hz r24_lt)
theorem share_some {w : Nat} {n : Int} (hw : U .f32 w) (h2 : -16777216 ≤ n) (h3 : n ≤ 16777216) : ∃ z, opC .mul .f32 (some w) (some (FloatKind.f32.nearest n)) = some z := by
  obtain ⟨z, e, hz⟩ := Umul_le (k := .f32) r24_lt (nearest_rg h2 h3) hw
  exact ⟨z, e⟩
end Go.Proofs.Ytpbafacehmjdmaa
