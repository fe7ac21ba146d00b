/- Rounding between bounds: a number that lies between two words is rounded between them. -/
import Derived.Test.YtonlgkecphijoaaZp
namespace Go.Proofs.Ytonlgkecphijoaa
open Ieee
set_option linter.unusedSimpArgs false
set_option linter.unusedVariables false

theorem cut_le (neg : Bool) (n drop k : Nat) (h : n ≤ k * 2 ^ drop) : Toward.even.cut neg n drop ≤ k := by
  unfold Toward.cut
  simp only [Nat.shiftLeft_eq, Nat.one_mul]
  generalize hg : 2 ^ min drop (n.log2 + 2) = gap
  have hgp : 0 < gap := by rw [← hg]; exact Nat.two_pow_pos _
  have hd := Nat.div_add_mod n gap
  have hm := Nat.mod_lt n hgp
  generalize n / gap = low at *
  generalize n % gap = rest at *
  rcases Nat.le_total drop (n.log2 + 2) with hdl | hdl
  · rw [Nat.min_eq_left hdl] at hg
    rw [hg] at h
    have h1 : gap * low + rest ≤ gap * k := by rw [hd, Nat.mul_comm gap k]; exact h
    by_cases hr : rest = 0
    · subst hr
      have : low ≤ k := Nat.le_of_mul_le_mul_left (by omega : gap * low ≤ gap * k) hgp
      have hf : (decide (gap < 2 * 0) || (gap == 2 * 0 && low % 2 == 1)) = false := by
        have : ¬ gap = 0 := by omega
        simp [this]
      simp only [hf]
      exact this
    · have : gap * low < gap * k := by omega
      have := Nat.lt_of_mul_lt_mul_left this
      have := Bool.toNat_le (decide (gap < 2 * rest) || (gap == 2 * rest && low % 2 == 1)); omega
  · rw [Nat.min_eq_right hdl] at hg
    have hl : n < gap := by
      rw [← hg]
      exact Nat.lt_of_lt_of_le Nat.lt_log2_self (Nat.pow_le_pow_right (by omega) (by omega))
    have h2 : 2 * n < gap := by
      rw [← hg, Nat.pow_succ]
      have : n < 2 ^ (n.log2 + 1) := Nat.lt_log2_self
      omega
    have hlow : low = 0 := by
      rcases Nat.eq_zero_or_pos low with h | h
      · exact h
      · have : gap * 1 ≤ gap * low := Nat.mul_le_mul_left _ h
        omega
    subst hlow
    have hrest : rest = n := by omega
    have hf : (decide (gap < 2 * rest) || (gap == 2 * rest && 0 % 2 == 1)) = false := by simp; omega
    simp only [hf]
    exact Nat.zero_le _

theorem le_cut (neg : Bool) (n drop k : Nat) (h : k * 2 ^ drop ≤ n) : k ≤ Toward.even.cut neg n drop := by
  rcases Nat.eq_zero_or_pos k with h0 | h0
  · omega
  unfold Toward.cut
  simp only [Nat.shiftLeft_eq, Nat.one_mul]
  have hn : 2 ^ drop ≤ n := Nat.le_trans (by have := Nat.mul_le_mul_right (2 ^ drop) h0; omega) h
  have hdl : drop ≤ n.log2 + 2 := by
    have : n < 2 ^ (n.log2 + 1) := Nat.lt_log2_self
    have : 2 ^ drop < 2 ^ (n.log2 + 1) := by omega
    have := (Nat.pow_lt_pow_iff_right (a := 2) (by omega)).1 this
    omega
  rw [Nat.min_eq_left hdl]
  have : k ≤ n / 2 ^ drop := (Nat.le_div_iff_mul_le (Nat.two_pow_pos _)).2 h
  omega

/-- The rung that is nearest. -/
def rungOf (f : Format) (m : Nat) (p : Int) : Nat :=
  if m = 0 then 0 else
  let last := max (p + m.log2 - f.fractionBits) f.leastPlace
  min ((last - f.leastPlace).toNat * f.binade + Toward.even.cut false (m <<< (p - last).toNat) (last - p).toNat) f.infRung

theorem cut_neg (neg : Bool) (n d : Nat) : Toward.even.cut neg n d = Toward.even.cut false n d := rfl

theorem nearest_rung (f : Format) (neg : Bool) (m : Nat) (p : Int) : f.nearest neg m p = f.word neg (rungOf f m p) := by
  unfold Format.nearest rungOf
  split
  · rfl
  · rfl

theorem mag_at (f : Format) (E K : Nat) (h : E = 0 ∨ f.binade ≤ K) (h2 : K ≤ 2 * f.binade) : mag f (E * f.binade + K) = K * 2 ^ E := by
  have hb := binade_pos f
  unfold mag
  by_cases hK : K < f.binade
  · have hE : E = 0 := by omega
    subst hE
    simp [hK]
  · rcases Nat.lt_or_ge K (2 * f.binade) with h3 | h3
    · have e1 : (E * f.binade + K) / f.binade = E + 1 := by
        have : E * f.binade + K = (K - f.binade) + (E + 1) * f.binade := by rw [Nat.add_mul]; omega
        rw [this, Nat.add_mul_div_right _ _ hb, Nat.div_eq_of_lt (by omega), Nat.zero_add]
      have e2 : (E * f.binade + K) % f.binade = K - f.binade := by
        have : E * f.binade + K = (K - f.binade) + (E + 1) * f.binade := by rw [Nat.add_mul]; omega
        rw [this, Nat.add_mul_mod_self_right, Nat.mod_eq_of_lt (by omega)]
      rw [if_neg (by omega), e1, e2]
      congr 1; omega
    · have hk : K = 2 * f.binade := by omega
      subst hk
      have e0 : E * f.binade + 2 * f.binade = (E + 2) * f.binade := by rw [Nat.add_mul]
      rw [if_neg (by omega), e0, Nat.mul_div_cancel _ hb, Nat.mul_mod_left]
      have : E + 2 - 1 = E + 1 := rfl
      rw [this, Nat.pow_succ, Nat.add_zero, ← Nat.mul_assoc, Nat.mul_comm 2 f.binade, Nat.mul_right_comm]

structure RungSpec (f : Format) (m : Nat) (p : Int) (E K up drop : Nat) : Prop where
  rung : rungOf f m p = min (E * f.binade + K) f.infRung
  cut : K = Toward.even.cut false (m * 2 ^ up) drop
  pl : p - f.leastPlace + drop = (up : Int) + E
  lo : E = 0 ∨ f.binade * 2 ^ drop ≤ m * 2 ^ up
  hi : m * 2 ^ up < 2 * f.binade * 2 ^ drop

theorem rung_spec (f : Format) (m : Nat) (p : Int) (hm : m ≠ 0) : ∃ E K up drop, RungSpec f m p E K up drop := by
  have h1 : m < 2 ^ (m.log2 + 1) := Nat.lt_log2_self
  have h2 : 2 ^ m.log2 ≤ m := Nat.log2_self_le hm
  generalize hl : max (p + m.log2 - f.fractionBits) f.leastPlace = last
  refine ⟨(last - f.leastPlace).toNat, _, (p - last).toNat, (last - p).toNat, ?_, rfl, by omega, ?_, ?_⟩
  · unfold rungOf
    rw [if_neg hm]
    simp only [hl, Nat.shiftLeft_eq]
  · rcases Nat.eq_zero_or_pos (last - f.leastPlace).toNat with h | h
    · exact Or.inl h
    · refine Or.inr ?_
      have e : m.log2 + (p - last).toNat = f.fractionBits + (last - p).toNat := by omega
      unfold Format.binade
      rw [← Nat.pow_add, ← e, Nat.pow_add]
      exact Nat.mul_le_mul_right _ h2
  · have e : m.log2 + (p - last).toNat ≤ f.fractionBits + (last - p).toNat := by omega
    have : m * 2 ^ (p - last).toNat < 2 ^ (m.log2 + 1) * 2 ^ (p - last).toNat := Nat.mul_lt_mul_of_pos_right h1 (Nat.two_pow_pos _)
    refine Nat.lt_of_lt_of_le this ?_
    unfold Format.binade
    have e2 : 2 * 2 ^ f.fractionBits * 2 ^ (last - p).toNat = 2 ^ (f.fractionBits + 1 + (last - p).toNat) := by rw [Nat.pow_add, Nat.pow_succ, Nat.mul_comm 2]
    rw [e2, ← Nat.pow_add]
    exact Nat.pow_le_pow_right (by omega) (by omega)

theorem mag_le (f : Format) {a b : Nat} (h : a ≤ b) : mag f a ≤ mag f b := by
  rcases Nat.lt_or_ge a b with h1 | h1
  · exact Nat.le_of_lt (mag_mono f h1)
  · have : a = b := by omega
    subst this; exact Nat.le_refl _

theorem scale_eq (m a b up E drop : Nat) (h : a + drop = up + E + b) : m * 2 ^ a * 2 ^ drop = m * 2 ^ up * (2 ^ E * 2 ^ b) := by
  rw [Nat.mul_assoc, ← Nat.pow_add, h, Nat.pow_add, Nat.pow_add, Nat.mul_assoc, Nat.mul_assoc]

theorem rung_le (f : Format) (m : Nat) (p : Int) (r a b : Nat) (hp : p - f.leastPlace = (a : Int) - b) (h : m * 2 ^ a ≤ mag f r * 2 ^ b) : rungOf f m p ≤ r := by
  by_cases hm : m = 0
  · unfold rungOf; rw [if_pos hm]; exact Nat.zero_le _
  obtain ⟨E, K, up, drop, s⟩ := rung_spec f m p hm
  rw [s.rung]
  refine Nat.le_trans (Nat.min_le_left _ _) ?_
  have hb := binade_pos f
  have hsc := scale_eq m a b up E drop (by have := s.pl; omega)
  have hq : 0 < 2 ^ E * 2 ^ b := Nat.mul_pos (Nat.two_pow_pos _) (Nat.two_pow_pos _)
  have hK2 : K ≤ 2 * f.binade := by rw [s.cut]; exact cut_le _ _ _ _ (Nat.le_of_lt s.hi)
  have hK1 : E = 0 ∨ f.binade ≤ K := by
    rcases s.lo with h | h
    · exact Or.inl h
    · exact Or.inr (by rw [s.cut]; exact le_cut _ _ _ _ h)
  apply Classical.byContradiction
  intro hn
  have hr : r ≤ E * f.binade + K - 1 := by omega
  have hmr := mag_le f hr
  have hm2 : m * 2 ^ up * (2 ^ E * 2 ^ b) ≤ mag f r * 2 ^ b * 2 ^ drop := by rw [← hsc]; exact Nat.mul_le_mul_right _ h
  by_cases hc : K = 0 ∨ (E ≠ 0 ∧ K = f.binade)
  · rcases hc with hc | ⟨hE, hc⟩
    · rcases hK1 with h0 | h0
      · rw [h0, hc] at hn; omega
      · omega
    · have h3 : f.binade * 2 ^ drop ≤ m * 2 ^ up := by rcases s.lo with h | h; exact absurd h hE; exact h
      have hR := mag_at f E K hK1 hK2
      have hlt : mag f r < mag f (E * f.binade + K) := mag_mono f (by omega)
      rw [hR, hc] at hlt
      have : f.binade * 2 ^ drop * (2 ^ E * 2 ^ b) ≤ mag f r * 2 ^ b * 2 ^ drop := Nat.le_trans (Nat.mul_le_mul_right _ h3) hm2
      have e1 : f.binade * 2 ^ drop * (2 ^ E * 2 ^ b) = f.binade * 2 ^ E * (2 ^ b * 2 ^ drop) := by ac_rfl
      have e2 : mag f r * 2 ^ b * 2 ^ drop = mag f r * (2 ^ b * 2 ^ drop) := by ac_rfl
      rw [e1, e2] at this
      have := Nat.le_of_mul_le_mul_right this (Nat.mul_pos (Nat.two_pow_pos _) (Nat.two_pow_pos _))
      omega
  · have hKp : 0 < K := by omega
    have hKp' : E = 0 ∨ f.binade ≤ K - 1 := by omega
    have e0 : E * f.binade + K - 1 = E * f.binade + (K - 1) := by omega
    rw [e0, mag_at f E (K - 1) hKp' (by omega)] at hmr
    have h4 : mag f r * 2 ^ b * 2 ^ drop ≤ (K - 1) * 2 ^ E * 2 ^ b * 2 ^ drop := Nat.mul_le_mul_right _ (Nat.mul_le_mul_right _ hmr)
    have h5 := Nat.le_trans hm2 h4
    have e1 : (K - 1) * 2 ^ E * 2 ^ b * 2 ^ drop = (K - 1) * 2 ^ drop * (2 ^ E * 2 ^ b) := by ac_rfl
    rw [e1] at h5
    have h6 := Nat.le_of_mul_le_mul_right h5 hq
    have h7 := cut_le false _ _ _ h6
    rw [← s.cut] at h7
    omega

theorem le_rung (f : Format) (m : Nat) (p : Int) (r a b : Nat) (hp : p - f.leastPlace = (a : Int) - b) (hi : r ≤ f.infRung) (h : mag f r * 2 ^ b ≤ m * 2 ^ a) : r ≤ rungOf f m p := by
  by_cases hm : m = 0
  · subst hm
    have : mag f r = 0 := by
      rcases Nat.eq_zero_or_pos (mag f r) with h1 | h1
      · exact h1
      · have := Nat.mul_pos h1 (Nat.two_pow_pos b); omega
    rcases Nat.eq_zero_or_pos r with h1 | h1
    · omega
    · have := mag_mono f h1; omega
  obtain ⟨E, K, up, drop, s⟩ := rung_spec f m p hm
  rw [s.rung]
  refine Nat.le_min.2 ⟨?_, hi⟩
  have hb := binade_pos f
  have hsc := scale_eq m a b up E drop (by have := s.pl; omega)
  have hq : 0 < 2 ^ E * 2 ^ b := Nat.mul_pos (Nat.two_pow_pos _) (Nat.two_pow_pos _)
  have hK2 : K ≤ 2 * f.binade := by rw [s.cut]; exact cut_le _ _ _ _ (Nat.le_of_lt s.hi)
  have hK1 : E = 0 ∨ f.binade ≤ K := by
    rcases s.lo with h | h
    · exact Or.inl h
    · exact Or.inr (by rw [s.cut]; exact le_cut _ _ _ _ h)
  apply Classical.byContradiction
  intro hn
  have hm2 : mag f r * 2 ^ b * 2 ^ drop ≤ m * 2 ^ up * (2 ^ E * 2 ^ b) := by rw [← hsc]; exact Nat.mul_le_mul_right _ h
  have fin : ∀ K', K' * 2 ^ E ≤ mag f r → K' * 2 ^ drop ≤ m * 2 ^ up := fun K' hK' => by
    have h4 : K' * 2 ^ E * 2 ^ b * 2 ^ drop ≤ mag f r * 2 ^ b * 2 ^ drop := Nat.mul_le_mul_right _ (Nat.mul_le_mul_right _ hK')
    have h5 := Nat.le_trans h4 hm2
    have e1 : K' * 2 ^ E * 2 ^ b * 2 ^ drop = K' * 2 ^ drop * (2 ^ E * 2 ^ b) := by ac_rfl
    rw [e1] at h5
    exact Nat.le_of_mul_le_mul_right h5 hq
  rcases Nat.lt_or_ge K (2 * f.binade) with h3 | h3
  · have := mag_le f (show E * f.binade + (K + 1) ≤ r by omega)
    rw [mag_at f E (K + 1) (by omega) (by omega)] at this
    have := le_cut false _ _ _ (fin _ this)
    rw [← s.cut] at this
    omega
  · have := mag_le f (show E * f.binade + K ≤ r by omega)
    rw [mag_at f E K hK1 hK2] at this
    have h4 := fin _ this
    have : K = 2 * f.binade := by omega
    rw [this] at h4
    have := s.hi
    omega

/-- A number that is a word's is written as it. -/
theorem rung_exact (f : Format) (m : Nat) (p : Int) (r a b : Nat) (hp : p - f.leastPlace = (a : Int) - b) (hi : r ≤ f.infRung) (h : m * 2 ^ a = mag f r * 2 ^ b) : rungOf f m p = r :=
  Nat.le_antisymm (rung_le f m p r a b hp (Nat.le_of_eq h)) (le_rung f m p r a b hp hi (Nat.le_of_eq h.symm))
end Go.Proofs.Ytonlgkecphijoaa
