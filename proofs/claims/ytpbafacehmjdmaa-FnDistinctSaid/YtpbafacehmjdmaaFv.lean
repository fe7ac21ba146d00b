/- Floats by their values: what an operation gives lies between any two floats that the exact result lies between. -/
import Derived.Test.YtpbafacehmjdmaaZg
namespace Go.Proofs.Ytpbafacehmjdmaa
open Ieee
set_option linter.unusedSimpArgs false
set_option linter.unusedVariables false
set_option maxRecDepth 100000

/-- Finite. -/
def Fi (k : FloatKind) (w : Nat) : Prop := rgF k w < k.format.infRung
/-- The value without its sign, in the least unit. -/
def mF (k : FloatKind) (w : Nat) : Nat := mag k.format (rgF k w)
/-- The value, in the least unit. -/
def vF (k : FloatKind) (w : Nat) : Int := if sg k w then -((mF k w : Nat) : Int) else ((mF k w : Nat) : Int)
theorem vF_pos {k : FloatKind} {w : Nat} (h : sg k w = false) : vF k w = ((mF k w : Nat) : Int) := by unfold vF; rw [h]; rfl
theorem vF_neg {k : FloatKind} {w : Nat} (h : sg k w = true) : vF k w = -((mF k w : Nat) : Int) := by unfold vF; rw [h]; rfl
/-- A number with its sign. -/
def sI (s : Bool) (m : Nat) : Int := if s then -((m : Nat) : Int) else ((m : Nat) : Int)
theorem vF_sI (k : FloatKind) (w : Nat) : vF k w = sI (sg k w) (mF k w) := rfl
theorem sI_mul (s : Bool) (m T : Nat) : sI s m * (T : Int) = sI s (m * T) := by
  unfold sI
  cases s
  · simp
  · simp [Int.neg_mul]
theorem le_write' (k : FloatKind) (s : Bool) (m : Nat) (p : Int) (r a b : Nat) (hr : r ≤ k.format.infRung) (hp : p + (lp k : Nat) = (a : Int) - b) (h : mag k.format r * 2 ^ b ≤ m * 2 ^ a) (hi : rungOf k.format m p < k.format.signWeight) :
    r ≤ rgF k (k.format.write (.number s m p)) := by
  have h1 := le_rung k.format m p r a b (by rw [lp_eq]; omega) hr h
  have e : k.format.write (.number s m p) = k.format.word s (rungOf k.format m p) := nearest_rung _ _ _ _
  rw [e, rg_word _ _ _ hi]
  exact h1
theorem pos_of {a T : Nat} (hT : 0 < T) (h : a * T = 0) : a = 0 := by
  rcases Nat.eq_zero_or_pos a with h1 | h1
  · exact h1
  · have := Nat.mul_pos h1 hT; omega
/-- A number is written between bounds that it lies between. -/
theorem write_bd (k : FloatKind) (s : Bool) (m : Nat) (p : Int) (lo hi a b : Nat) (hlo : Fi k lo) (hhi : Fi k hi) (hp : p + (lp k : Nat) = (a : Int) - b)
    (h1 : vF k lo * ((2 ^ b : Nat) : Int) ≤ sI s (m * 2 ^ a)) (h2 : sI s (m * 2 ^ a) ≤ vF k hi * ((2 ^ b : Nat) : Int)) :
    Fi k (k.format.write (.number s m p)) ∧ vF k lo ≤ vF k (k.format.write (.number s m p)) ∧ vF k (k.format.write (.number s m p)) ≤ vF k hi := by
  have hT : 0 < 2 ^ b := Nat.two_pow_pos b
  rw [vF_sI k lo, sI_mul] at h1
  rw [vF_sI k hi, sI_mul] at h2
  have hin := inf_lt k
  unfold Fi at hlo hhi
  cases s
  · -- not negative: the bound above is hi
    have hm : m * 2 ^ a ≤ mF k hi * 2 ^ b := by
      unfold sI at h2
      cases hs : sg k hi <;> rw [hs] at h2 <;> simp only [Bool.false_eq_true, if_false, if_true] at h2 <;> omega
    obtain ⟨g1, g2⟩ := write_le k false m p (rgF k hi) a b (Nat.le_of_lt hhi) hp hm
    have g3 : mF k (k.format.write (.number false m p)) ≤ mF k hi := mag_le _ g1
    refine ⟨Nat.lt_of_le_of_lt g1 hhi, ?_, ?_⟩
    · rw [vF_pos g2]
      cases hs : sg k lo
      · rw [vF_pos hs]
        rw [hs] at h1
        unfold sI at h1
        simp only [Bool.false_eq_true, if_false] at h1
        have hl : mag k.format (rgF k lo) * 2 ^ b ≤ m * 2 ^ a := (show mF k lo * 2 ^ b ≤ m * 2 ^ a by omega)
        have hru := rung_le k.format m p (rgF k hi) a b (by rw [lp_eq]; omega) hm
        have g4 := le_write' k false m p (rgF k lo) a b (Nat.le_of_lt hlo) hp hl (by omega)
        have : mF k lo ≤ mF k (k.format.write (.number false m p)) := mag_le _ g4
        omega
      · rw [vF_neg hs]; omega
    · rw [vF_pos g2]
      cases hs : sg k hi
      · rw [vF_pos hs]; omega
      · rw [hs] at h2
        unfold sI at h2
        simp only [Bool.false_eq_true, if_false, if_true] at h2
        have h0 : mF k hi = 0 := pos_of hT (by omega)
        rw [vF_neg hs]; omega
  · have hm : m * 2 ^ a ≤ mF k lo * 2 ^ b := by
      unfold sI at h1
      cases hs : sg k lo <;> rw [hs] at h1 <;> simp only [Bool.false_eq_true, if_false, if_true] at h1 <;> omega
    obtain ⟨g1, g2⟩ := write_le k true m p (rgF k lo) a b (Nat.le_of_lt hlo) hp hm
    have g3 : mF k (k.format.write (.number true m p)) ≤ mF k lo := mag_le _ g1
    refine ⟨Nat.lt_of_le_of_lt g1 hlo, ?_, ?_⟩
    · rw [vF_neg g2]
      cases hs : sg k lo
      · rw [hs] at h1
        unfold sI at h1
        simp only [Bool.false_eq_true, if_false, if_true] at h1
        have h0 : mF k lo = 0 := pos_of hT (by omega)
        rw [vF_pos hs]; omega
      · rw [vF_neg hs]; omega
    · rw [vF_neg g2]
      cases hs : sg k hi
      · rw [vF_pos hs]; omega
      · rw [vF_neg hs]
        rw [hs] at h2
        unfold sI at h2
        simp only [if_true] at h2
        have hl : mag k.format (rgF k hi) * 2 ^ b ≤ m * 2 ^ a := (show mF k hi * 2 ^ b ≤ m * 2 ^ a by omega)
        have hru := rung_le k.format m p (rgF k lo) a b (by rw [lp_eq]; omega) hm
        have g4 := le_write' k true m p (rgF k hi) a b (Nat.le_of_lt hhi) hp hl (by omega)
        have : mF k hi ≤ mF k (k.format.write (.number true m p)) := mag_le _ g4
        omega
theorem sI_abs (z : Int) (s0 : Bool) : sI (if z = 0 then s0 else decide (z < 0)) z.natAbs = z := by
  unfold sI
  by_cases h : z = 0
  · subst h; rw [if_pos rfl]; cases s0 <;> simp
  · rw [if_neg h]
    by_cases h2 : z < 0
    · rw [decide_eq_true h2, if_pos rfl]; omega
    · rw [decide_eq_false h2]; simp only [Bool.false_eq_true, if_false]; omega
theorem sI_abs_mul (z : Int) (s0 : Bool) (T : Nat) : sI (if z = 0 then s0 else decide (z < 0)) (z.natAbs * T) = z * (T : Int) := by
  rw [← sI_mul, sI_abs]
theorem signed_sI (s : Bool) (m up : Nat) : signed s m up = sI s (m * 2 ^ up) := by
  unfold signed sI
  rw [Nat.shiftLeft_eq]
/-- A sum of two numbers, exactly, in the lesser unit of both. -/
theorem sum_val {k : FloatKind} {x y m n i j : Nat} (s t : Bool) (hx : m * 2 ^ i = mF k x) (hy : n * 2 ^ j = mF k y) :
    (signed s m (i - min i j) + signed t n (j - min i j)) * ((2 ^ min i j : Nat) : Int) = sI s (mF k x) + sI t (mF k y) := by
  rw [signed_sI, signed_sI, Int.add_mul, sI_mul, sI_mul, Nat.mul_assoc, Nat.mul_assoc, ← Nat.pow_add, ← Nat.pow_add, Nat.sub_add_cancel (Nat.min_le_left _ _), Nat.sub_add_cancel (Nat.min_le_right _ _), hx, hy]
theorem sum_bd {k : FloatKind} {x y lo hi : Nat} (s t : Bool) (hx : Fi k x) (hy : Fi k y) (hlo : Fi k lo) (hhi : Fi k hi) (h1 : vF k lo ≤ sI s (mF k x) + sI t (mF k y)) (h2 : sI s (mF k x) + sI t (mF k y) ≤ vF k hi) :
    ∀ m i n j, Fin k x m i → Fin k y n j → ∃ z, (Datum.sum (.number s m (-((lp k : Nat) : Int) + (i : Int))) (.number t n (-((lp k : Nat) : Int) + (j : Int)))).map k.format.write = some z ∧ Fi k z ∧ vF k lo ≤ vF k z ∧ vF k z ≤ vF k hi := by
  intro m i n j fx fy
  have e1 : (-((lp k : Nat) : Int) + (i : Int) - min (-((lp k : Nat) : Int) + (i : Int)) (-((lp k : Nat) : Int) + (j : Int))).toNat = i - min i j := by omega
  have e2 : (-((lp k : Nat) : Int) + (j : Int) - min (-((lp k : Nat) : Int) + (i : Int)) (-((lp k : Nat) : Int) + (j : Int))).toNat = j - min i j := by omega
  have hv := sum_val (k := k) s t (show m * 2 ^ i = mF k x from fx.val) (show n * 2 ^ j = mF k y from fy.val)
  obtain ⟨z, hz⟩ : ∃ z, signed s m (i - min i j) + signed t n (j - min i j) = z := ⟨_, rfl⟩
  rw [hz] at hv
  have e0 : min (-((lp k : Nat) : Int) + (i : Int)) (-((lp k : Nat) : Int) + (j : Int)) + (lp k : Nat) = ((min i j : Nat) : Int) - (0 : Nat) := by omega
  have hq : (Datum.sum (.number s m (-((lp k : Nat) : Int) + (i : Int))) (.number t n (-((lp k : Nat) : Int) + (j : Int)))).map k.format.write = some (k.format.write (.number (if z = 0 then s && t else decide (z < 0)) z.natAbs (min (-((lp k : Nat) : Int) + (i : Int)) (-((lp k : Nat) : Int) + (j : Int))))) := by
    simp only [Datum.sum, e1, e2, hz, Option.map_some]
  obtain ⟨g1, g2, g3⟩ := write_bd k (if z = 0 then s && t else decide (z < 0)) z.natAbs _ lo hi (min i j) 0 hlo hhi e0 (by rw [sI_abs_mul, hv, Nat.pow_zero, Int.natCast_one, Int.mul_one]; exact h1) (by rw [sI_abs_mul, hv, Nat.pow_zero, Int.natCast_one, Int.mul_one]; exact h2)
  exact ⟨_, hq, g1, g2, g3⟩
theorem add_bd {k : FloatKind} {x y lo hi : Nat} (hx : Fi k x) (hy : Fi k y) (hlo : Fi k lo) (hhi : Fi k hi) (h1 : vF k lo ≤ vF k x + vF k y) (h2 : vF k x + vF k y ≤ vF k hi) :
    ∃ z, opC .add k (some x) (some y) = some z ∧ Fi k z ∧ vF k lo ≤ vF k z ∧ vF k z ≤ vF k hi := by
  obtain ⟨m, i, fx⟩ := fin_of hx
  obtain ⟨n, j, fy⟩ := fin_of hy
  obtain ⟨z, g0, g⟩ := sum_bd (sg k x) (sg k y) hx hy hlo hhi h1 h2 m i n j fx fy
  refine ⟨z, ?_, g⟩
  show k.format.add x y = some z
  unfold Format.add
  rw [fx.read, fy.read]
  exact g0
theorem sI_not (s : Bool) (m : Nat) : sI (!s) m = -sI s m := by unfold sI; cases s <;> simp
theorem sub_bd {k : FloatKind} {x y lo hi : Nat} (hx : Fi k x) (hy : Fi k y) (hlo : Fi k lo) (hhi : Fi k hi) (h1 : vF k lo ≤ vF k x - vF k y) (h2 : vF k x - vF k y ≤ vF k hi) :
    ∃ z, opC .sub k (some x) (some y) = some z ∧ Fi k z ∧ vF k lo ≤ vF k z ∧ vF k z ≤ vF k hi := by
  obtain ⟨m, i, fx⟩ := fin_of hx
  obtain ⟨n, j, fy⟩ := fin_of hy
  have e : sI (sg k x) (mF k x) + sI (!sg k y) (mF k y) = vF k x - vF k y := by rw [sI_not]; show vF k x + -vF k y = _; omega
  obtain ⟨z, g0, g⟩ := sum_bd (sg k x) (!sg k y) hx hy hlo hhi (by rw [e]; exact h1) (by rw [e]; exact h2) m i n j fx fy
  refine ⟨z, ?_, g⟩
  show k.format.sub x y = some z
  unfold Format.sub
  rw [fx.read, fy.read]
  exact g0
theorem sI_xor (s t : Bool) (m n : Nat) : sI (s ^^ t) (m * n) = sI s m * sI t n := by
  unfold sI
  cases s <;> cases t <;> simp [Int.neg_mul, Int.mul_neg]
theorem mul_bd {k : FloatKind} {x y lo hi : Nat} (hx : Fi k x) (hy : Fi k y) (hlo : Fi k lo) (hhi : Fi k hi) (h1 : vF k lo * ((2 ^ lp k : Nat) : Int) ≤ vF k x * vF k y) (h2 : vF k x * vF k y ≤ vF k hi * ((2 ^ lp k : Nat) : Int)) :
    ∃ z, opC .mul k (some x) (some y) = some z ∧ Fi k z ∧ vF k lo ≤ vF k z ∧ vF k z ≤ vF k hi := by
  obtain ⟨m, i, fx⟩ := fin_of hx
  obtain ⟨n, j, fy⟩ := fin_of hy
  have hz : floatBits .mul k x y = some (k.format.write (.number (sg k x ^^ sg k y) (m * n) (-((lp k : Nat) : Int) + (i : Int) + (-((lp k : Nat) : Int) + (j : Int))))) := by
    show k.format.mul x y = _
    unfold Format.mul
    rw [fx.read, fy.read]; rfl
  have e : sI (sg k x ^^ sg k y) (m * n * 2 ^ (i + j)) = vF k x * vF k y := by
    rw [show m * n * 2 ^ (i + j) = mF k x * mF k y by rw [← show m * 2 ^ i = mF k x from fx.val, ← show n * 2 ^ j = mF k y from fy.val, Nat.pow_add]; ac_rfl, sI_xor]; rfl
  obtain ⟨g1, g2, g3⟩ := write_bd k (sg k x ^^ sg k y) (m * n) (-((lp k : Nat) : Int) + (i : Int) + (-((lp k : Nat) : Int) + (j : Int))) lo hi (i + j) (lp k) hlo hhi (by omega) (by rw [e]; exact h1) (by rw [e]; exact h2)
  exact ⟨_, hz, g1, g2, g3⟩
end Go.Proofs.Ytpbafacehmjdmaa
