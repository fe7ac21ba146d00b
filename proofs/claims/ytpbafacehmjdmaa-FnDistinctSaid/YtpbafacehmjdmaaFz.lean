/- Sums and quotients of numbers that are not negative, within bounds. -/
import Derived.Test.YtpbafacehmjdmaaZg
namespace Go.Proofs.Ytpbafacehmjdmaa
open Ieee
set_option linter.unusedSimpArgs false
set_option linter.unusedVariables false
set_option maxRecDepth 100000

/-- A quotient of a number by one that is no less than a power of 2 of it. -/
theorem div_le {k : FloatKind} {x y r c : Nat} (hx : rgF k x < k.format.infRung) (hy : rgF k y < k.format.infRung) (h0 : 0 < rgF k y) (hr : r ≤ k.format.infRung) (hmr : mag k.format r = 2 ^ (lp k + c)) (hxy : mag k.format (rgF k x) ≤ mag k.format (rgF k y) * 2 ^ c) : ∃ z, floatBits .quo k x y = some z ∧ rgF k z ≤ r ∧ sg k z = (sg k x ^^ sg k y) := by
  obtain ⟨m, i, fx⟩ := fin_of hx
  obtain ⟨n, j, fy⟩ := fin_of hy
  have hv : m * 2 ^ i ≤ n * 2 ^ (j + c) := by rw [Nat.pow_add, ← Nat.mul_assoc, fx.val, fy.val]; exact hxy
  have hn : n ≠ 0 := by
    intro h; subst h
    have := mag_mono k.format h0
    rw [← fy.val] at this; simp at this
  generalize hmore : k.format.fractionBits + 2 + n.log2 - m.log2 = more
  have hz : floatBits .quo k x y = some (k.format.write (.number (sg k x ^^ sg k y) (2 * (m <<< more / n) + (m <<< more % n != 0).toNat) (-((lp k : Nat) : Int) + (i : Int) - (-((lp k : Nat) : Int) + (j : Int)) - more - 1))) := by
    show k.format.div x y = _
    unfold Format.div
    rw [fx.read, fy.read]
    simp only [Datum.quotient, if_neg hn, hmore, Option.map_some]
  have hn1 : 2 ^ n.log2 ≤ n := Nat.log2_self_le hn
  have hn2 : n < 2 ^ (n.log2 + 1) := Nat.lt_log2_self
  -- the bound
  have key : ∀ q st : Nat, q = m * 2 ^ more / n → st = (m * 2 ^ more % n != 0).toNat → ∃ a b : Nat, ((i : Int) - j - more - 1 + (lp k : Nat) = (a : Int) - b) ∧ (2 * q + st) * 2 ^ a ≤ 2 ^ (lp k + c) * 2 ^ b := by
    intro q st hq hst
    by_cases hm : m = 0
    · subst hm
      have q0 : q = 0 := by rw [hq]; simp
      have s0 : st = 0 := by rw [hst]; simp
      refine ⟨i + lp k, j + more + 1, by omega, ?_⟩
      rw [q0, s0]; simp
    have hm1 : 2 ^ m.log2 ≤ m := Nat.log2_self_le hm
    -- the dividend is great: so the exponents fall
    have hD : n < m * 2 ^ more := by
      have h1 : n.log2 + 1 ≤ m.log2 + more := by omega
      calc n < 2 ^ (n.log2 + 1) := hn2
        _ ≤ 2 ^ (m.log2 + more) := pow_le_of h1
        _ = 2 ^ m.log2 * 2 ^ more := Nat.pow_add _ _ _
        _ ≤ m * 2 ^ more := Nat.mul_le_mul_right _ hm1
    -- m * 2 ^ more * 2 ^ i ≤ n * 2 ^ j * 2 ^ more, so j + more > i
    have hs : i < j + c + more := by
      rcases Nat.lt_or_ge i (j + c + more) with h | h
      · exact h
      · exfalso
        have h1 : n * 2 ^ (j + c + more) < m * 2 ^ more * 2 ^ i := by
          calc n * 2 ^ (j + c + more) < m * 2 ^ more * 2 ^ (j + c + more) := Nat.mul_lt_mul_of_pos_right hD (Nat.two_pow_pos _)
            _ ≤ m * 2 ^ more * 2 ^ i := Nat.mul_le_mul_left _ (pow_le_of h)
        have h2 : m * 2 ^ more * 2 ^ i ≤ n * 2 ^ (j + c + more) := by
          have := Nat.mul_le_mul_right (2 ^ more) hv
          rw [Nat.pow_add]
          calc m * 2 ^ more * 2 ^ i = m * 2 ^ i * 2 ^ more := by ac_rfl
            _ ≤ n * 2 ^ (j + c) * 2 ^ more := this
            _ = n * (2 ^ (j + c) * 2 ^ more) := by ac_rfl
        omega
    obtain ⟨S, hS⟩ : ∃ S, j + c + more = i + S := ⟨j + c + more - i, by omega⟩
    have hle : m * 2 ^ more ≤ n * 2 ^ S := by
      have h2 : m * 2 ^ more * 2 ^ i ≤ n * 2 ^ S * 2 ^ i := by
        have := Nat.mul_le_mul_right (2 ^ more) hv
        calc m * 2 ^ more * 2 ^ i = m * 2 ^ i * 2 ^ more := by ac_rfl
          _ ≤ n * 2 ^ (j + c) * 2 ^ more := this
          _ = n * 2 ^ (j + c + more) := by rw [Nat.pow_add 2 (j + c) more, Nat.mul_assoc]
          _ = n * 2 ^ (i + S) := by rw [hS]
          _ = n * 2 ^ S * 2 ^ i := by rw [Nat.pow_add]; ac_rfl
      exact Nat.le_of_mul_le_mul_right h2 (Nat.two_pow_pos _)
    have hfin : 2 * q + st ≤ 2 ^ (S + 1) := by
      have hdm := Nat.div_add_mod (m * 2 ^ more) n
      rw [← hq] at hdm
      rw [Nat.pow_succ]
      by_cases hr : m * 2 ^ more % n = 0
      · have s0 : st = 0 := by rw [hst, hr]; rfl
        rw [hr] at hdm
        have : n * q ≤ n * 2 ^ S := by omega
        have := Nat.le_of_mul_le_mul_left this (by omega)
        omega
      · have s1 : st ≤ 1 := by rw [hst]; exact Bool.toNat_le _
        have : n * q < n * 2 ^ S := by omega
        have := Nat.lt_of_mul_lt_mul_left this
        omega
    refine ⟨lp k + c, S + 1, by omega, ?_⟩
    rw [Nat.mul_comm (2 ^ (lp k + c))]
    exact Nat.mul_le_mul_right _ hfin
  obtain ⟨a, b, k1, k2⟩ := key _ _ rfl rfl
  rw [Nat.shiftLeft_eq] at hz
  obtain ⟨g1, g2⟩ := write_le k (sg k x ^^ sg k y) _ (-((lp k : Nat) : Int) + (i : Int) - (-((lp k : Nat) : Int) + (j : Int)) - more - 1) r a b hr (by omega) (by rw [hmr]; exact k2)
  exact ⟨_, hz, g1, g2⟩

/-- A number written that is at least another. -/
theorem le_write (k : FloatKind) (s : Bool) (m : Nat) (p : Int) (r a b : Nat) (hr : r ≤ k.format.infRung) (hp : p + (lp k : Nat) = (a : Int) - b) (h : mag k.format r * 2 ^ b ≤ m * 2 ^ a) (hi : rungOf k.format m p < k.format.signWeight) :
    r ≤ rgF k (k.format.write (.number s m p)) := by
  have h1 := le_rung k.format m p r a b (by rw [lp_eq]; omega) hr h
  have e : k.format.write (.number s m p) = k.format.word s (rungOf k.format m p) := nearest_rung _ _ _ _
  rw [e, rg_word _ _ _ hi]
  exact h1
/-- A sum of two numbers that are not negative. -/
theorem add_pos {k : FloatKind} {x y r : Nat} (hx : rgF k x < k.format.infRung) (hy : rgF k y < k.format.infRung) (sx : sg k x = false) (sy : sg k y = false) (hr : r < k.format.infRung) (hm : mag k.format (rgF k x) + mag k.format (rgF k y) ≤ mag k.format r) :
    ∃ z, floatBits .add k x y = some z ∧ rgF k z ≤ r ∧ rgF k x ≤ rgF k z ∧ rgF k y ≤ rgF k z ∧ sg k z = false := by
  obtain ⟨m, i, fx⟩ := fin_of hx
  obtain ⟨n, j, fy⟩ := fin_of hy
  have e1 : (-((lp k : Nat) : Int) + (i : Int) - min (-((lp k : Nat) : Int) + (i : Int)) (-((lp k : Nat) : Int) + (j : Int))).toNat = i - min i j := by omega
  have e2 : (-((lp k : Nat) : Int) + (j : Int) - min (-((lp k : Nat) : Int) + (i : Int)) (-((lp k : Nat) : Int) + (j : Int))).toNat = j - min i j := by omega
  obtain ⟨t, ht⟩ : ∃ t : Nat, t = m <<< (i - min i j) + n <<< (j - min i j) := ⟨_, rfl⟩
  have hz : floatBits .add k x y = some (k.format.write (.number false t (min (-((lp k : Nat) : Int) + (i : Int)) (-((lp k : Nat) : Int) + (j : Int))))) := by
    show k.format.add x y = _
    unfold Format.add
    rw [fx.read, fy.read, sx, sy]
    simp only [Datum.sum, e1, e2, signed, Bool.false_eq_true, if_false, Option.map_some]
    have e3 : ((m <<< (i - min i j) : Nat) : Int) + ((n <<< (j - min i j) : Nat) : Int) = (t : Int) := by omega
    rw [e3]
    have e4 : (if (t : Int) = 0 then false && false else decide ((t : Int) < 0)) = false := by split <;> simp
    rw [e4]
    simp
  have hv : t * 2 ^ min i j = mag k.format (rgF k x) + mag k.format (rgF k y) := by
    rw [ht, Nat.add_mul, Nat.shiftLeft_eq, Nat.shiftLeft_eq, Nat.mul_assoc, Nat.mul_assoc, ← Nat.pow_add, ← Nat.pow_add, Nat.sub_add_cancel (Nat.min_le_left _ _), Nat.sub_add_cancel (Nat.min_le_right _ _), fx.val, fy.val]
  have e0 : min (-((lp k : Nat) : Int) + (i : Int)) (-((lp k : Nat) : Int) + (j : Int)) + (lp k : Nat) = ((min i j : Nat) : Int) - (0 : Nat) := by omega
  obtain ⟨g1, g2⟩ := write_le k false t _ r (min i j) 0 (Nat.le_of_lt hr) e0 (by rw [hv]; simpa using hm)
  have hrl := rung_le k.format t (min (-((lp k : Nat) : Int) + (i : Int)) (-((lp k : Nat) : Int) + (j : Int))) r (min i j) 0 (by rw [lp_eq]; omega) (by rw [hv]; simpa using hm)
  have hin := inf_lt k
  have g3 := le_write k false t _ (rgF k x) (min i j) 0 (Nat.le_of_lt hx) e0 (by rw [hv, Nat.pow_zero, Nat.mul_one]; exact Nat.le_add_right _ _) (by omega)
  have g4 := le_write k false t _ (rgF k y) (min i j) 0 (Nat.le_of_lt hy) e0 (by rw [hv, Nat.pow_zero, Nat.mul_one]; exact Nat.le_add_left _ _) (by omega)
  exact ⟨_, hz, g1, g3, g4, g2⟩
end Go.Proofs.Ytpbafacehmjdmaa
