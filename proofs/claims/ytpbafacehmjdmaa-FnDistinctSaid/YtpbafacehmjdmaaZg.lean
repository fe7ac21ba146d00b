/- Floats: bounds, signs, orders. -/
import Derived.Test.YtpbafacehmjdmaaZp
import Derived.Test.YtpbafacehmjdmaaZm
import Derived.Test.YtpbafacehmjdmaaZn
namespace Go.Proofs.Ytpbafacehmjdmaa
open Ieee
set_option linter.unusedSimpArgs false
set_option linter.unusedVariables false

theorem cut_le (neg : Bool) (n drop k : Nat) (h : n ≤ k * 2 ^ drop) : Toward.even.cut neg n drop ≤ k := by
  unfold Toward.cut
  simp only [Nat.shiftLeft_eq, Nat.one_mul]
  generalize hg : 2 ^ min drop (n.log2 + 2) = gap
  have hgp : 0 < gap := by rw [← hg]; exact Nat.two_pow_pos _
  have hd := Nat.div_add_mod n gap
  have hm := Nat.mod_lt n hgp
  generalize n / gap = low at *
  generalize n % gap = rest at *
  rcases Nat.le_total drop (n.log2 + 2) with hdl | hdl
  · rw [Nat.min_eq_left hdl] at hg
    rw [hg] at h
    have h1 : gap * low + rest ≤ gap * k := by rw [hd, Nat.mul_comm gap k]; exact h
    by_cases hr : rest = 0
    · subst hr
      have : low ≤ k := Nat.le_of_mul_le_mul_left (by omega : gap * low ≤ gap * k) hgp
      have hf : (decide (gap < 2 * 0) || (gap == 2 * 0 && low % 2 == 1)) = false := by
        have : ¬ gap = 0 := by omega
        simp [this]
      simp only [hf]
      exact this
    · have : gap * low < gap * k := by omega
      have := Nat.lt_of_mul_lt_mul_left this
      have := Bool.toNat_le (decide (gap < 2 * rest) || (gap == 2 * rest && low % 2 == 1)); omega
  · rw [Nat.min_eq_right hdl] at hg
    have hl : n < gap := by
      rw [← hg]
      exact Nat.lt_of_lt_of_le Nat.lt_log2_self (Nat.pow_le_pow_right (by omega) (by omega))
    have h2 : 2 * n < gap := by
      rw [← hg, Nat.pow_succ]
      have : n < 2 ^ (n.log2 + 1) := Nat.lt_log2_self
      omega
    have hlow : low = 0 := by
      rcases Nat.eq_zero_or_pos low with h | h
      · exact h
      · have : gap * 1 ≤ gap * low := Nat.mul_le_mul_left _ h
        omega
    subst hlow
    have hrest : rest = n := by omega
    have hf : (decide (gap < 2 * rest) || (gap == 2 * rest && 0 % 2 == 1)) = false := by simp; omega
    simp only [hf]
    exact Nat.zero_le _

theorem le_cut (neg : Bool) (n drop k : Nat) (h : k * 2 ^ drop ≤ n) : k ≤ Toward.even.cut neg n drop := by
  rcases Nat.eq_zero_or_pos k with h0 | h0
  · omega
  unfold Toward.cut
  simp only [Nat.shiftLeft_eq, Nat.one_mul]
  have hn : 2 ^ drop ≤ n := Nat.le_trans (by have := Nat.mul_le_mul_right (2 ^ drop) h0; omega) h
  have hdl : drop ≤ n.log2 + 2 := by
    have : n < 2 ^ (n.log2 + 1) := Nat.lt_log2_self
    have : 2 ^ drop < 2 ^ (n.log2 + 1) := by omega
    have := (Nat.pow_lt_pow_iff_right (a := 2) (by omega)).1 this
    omega
  rw [Nat.min_eq_left hdl]
  have : k ≤ n / 2 ^ drop := (Nat.le_div_iff_mul_le (Nat.two_pow_pos _)).2 h
  omega

/-- The rung that is nearest. -/
def rungOf (f : Format) (m : Nat) (p : Int) : Nat :=
  if m = 0 then 0 else
  let last := max (p + m.log2 - f.fractionBits) f.leastPlace
  min ((last - f.leastPlace).toNat * f.binade + Toward.even.cut false (m <<< (p - last).toNat) (last - p).toNat) f.infRung

theorem cut_neg (neg : Bool) (n d : Nat) : Toward.even.cut neg n d = Toward.even.cut false n d := rfl

theorem nearest_rung (f : Format) (neg : Bool) (m : Nat) (p : Int) : f.nearest neg m p = f.word neg (rungOf f m p) := by
  unfold Format.nearest rungOf
  split
  · rfl
  · rfl

theorem mag_at (f : Format) (E K : Nat) (h : E = 0 ∨ f.binade ≤ K) (h2 : K ≤ 2 * f.binade) : mag f (E * f.binade + K) = K * 2 ^ E := by
  have hb := binade_pos f
  unfold mag
  by_cases hK : K < f.binade
  · have hE : E = 0 := by omega
    subst hE
    simp [hK]
  · rcases Nat.lt_or_ge K (2 * f.binade) with h3 | h3
    · have e1 : (E * f.binade + K) / f.binade = E + 1 := by
        have : E * f.binade + K = (K - f.binade) + (E + 1) * f.binade := by rw [Nat.add_mul]; omega
        rw [this, Nat.add_mul_div_right _ _ hb, Nat.div_eq_of_lt (by omega), Nat.zero_add]
      have e2 : (E * f.binade + K) % f.binade = K - f.binade := by
        have : E * f.binade + K = (K - f.binade) + (E + 1) * f.binade := by rw [Nat.add_mul]; omega
        rw [this, Nat.add_mul_mod_self_right, Nat.mod_eq_of_lt (by omega)]
      rw [if_neg (by omega), e1, e2]
      congr 1; omega
    · have hk : K = 2 * f.binade := by omega
      subst hk
      have e0 : E * f.binade + 2 * f.binade = (E + 2) * f.binade := by rw [Nat.add_mul]
      rw [if_neg (by omega), e0, Nat.mul_div_cancel _ hb, Nat.mul_mod_left]
      have : E + 2 - 1 = E + 1 := rfl
      rw [this, Nat.pow_succ, Nat.add_zero, ← Nat.mul_assoc, Nat.mul_comm 2 f.binade, Nat.mul_right_comm]

structure RungSpec (f : Format) (m : Nat) (p : Int) (E K up drop : Nat) : Prop where
  rung : rungOf f m p = min (E * f.binade + K) f.infRung
  cut : K = Toward.even.cut false (m * 2 ^ up) drop
  pl : p - f.leastPlace + drop = (up : Int) + E
  lo : E = 0 ∨ f.binade * 2 ^ drop ≤ m * 2 ^ up
  hi : m * 2 ^ up < 2 * f.binade * 2 ^ drop

theorem rung_spec (f : Format) (m : Nat) (p : Int) (hm : m ≠ 0) : ∃ E K up drop, RungSpec f m p E K up drop := by
  have h1 : m < 2 ^ (m.log2 + 1) := Nat.lt_log2_self
  have h2 : 2 ^ m.log2 ≤ m := Nat.log2_self_le hm
  generalize hl : max (p + m.log2 - f.fractionBits) f.leastPlace = last
  refine ⟨(last - f.leastPlace).toNat, _, (p - last).toNat, (last - p).toNat, ?_, rfl, by omega, ?_, ?_⟩
  · unfold rungOf
    rw [if_neg hm]
    simp only [hl, Nat.shiftLeft_eq]
  · rcases Nat.eq_zero_or_pos (last - f.leastPlace).toNat with h | h
    · exact Or.inl h
    · refine Or.inr ?_
      have e : m.log2 + (p - last).toNat = f.fractionBits + (last - p).toNat := by omega
      unfold Format.binade
      rw [← Nat.pow_add, ← e, Nat.pow_add]
      exact Nat.mul_le_mul_right _ h2
  · have e : m.log2 + (p - last).toNat ≤ f.fractionBits + (last - p).toNat := by omega
    have : m * 2 ^ (p - last).toNat < 2 ^ (m.log2 + 1) * 2 ^ (p - last).toNat := Nat.mul_lt_mul_of_pos_right h1 (Nat.two_pow_pos _)
    refine Nat.lt_of_lt_of_le this ?_
    unfold Format.binade
    have e2 : 2 * 2 ^ f.fractionBits * 2 ^ (last - p).toNat = 2 ^ (f.fractionBits + 1 + (last - p).toNat) := by rw [Nat.pow_add, Nat.pow_succ, Nat.mul_comm 2]
    rw [e2, ← Nat.pow_add]
    exact Nat.pow_le_pow_right (by omega) (by omega)

theorem mag_le (f : Format) {a b : Nat} (h : a ≤ b) : mag f a ≤ mag f b := by
  rcases Nat.lt_or_ge a b with h1 | h1
  · exact Nat.le_of_lt (mag_mono f h1)
  · have : a = b := by omega
    subst this; exact Nat.le_refl _

theorem scale_eq (m a b up E drop : Nat) (h : a + drop = up + E + b) : m * 2 ^ a * 2 ^ drop = m * 2 ^ up * (2 ^ E * 2 ^ b) := by
  rw [Nat.mul_assoc, ← Nat.pow_add, h, Nat.pow_add, Nat.pow_add, Nat.mul_assoc, Nat.mul_assoc]

theorem rung_le (f : Format) (m : Nat) (p : Int) (r a b : Nat) (hp : p - f.leastPlace = (a : Int) - b) (h : m * 2 ^ a ≤ mag f r * 2 ^ b) : rungOf f m p ≤ r := by
  by_cases hm : m = 0
  · unfold rungOf; rw [if_pos hm]; exact Nat.zero_le _
  obtain ⟨E, K, up, drop, s⟩ := rung_spec f m p hm
  rw [s.rung]
  refine Nat.le_trans (Nat.min_le_left _ _) ?_
  have hb := binade_pos f
  have hsc := scale_eq m a b up E drop (by have := s.pl; omega)
  have hq : 0 < 2 ^ E * 2 ^ b := Nat.mul_pos (Nat.two_pow_pos _) (Nat.two_pow_pos _)
  have hK2 : K ≤ 2 * f.binade := by rw [s.cut]; exact cut_le _ _ _ _ (Nat.le_of_lt s.hi)
  have hK1 : E = 0 ∨ f.binade ≤ K := by
    rcases s.lo with h | h
    · exact Or.inl h
    · exact Or.inr (by rw [s.cut]; exact le_cut _ _ _ _ h)
  apply Classical.byContradiction
  intro hn
  have hr : r ≤ E * f.binade + K - 1 := by omega
  have hmr := mag_le f hr
  have hm2 : m * 2 ^ up * (2 ^ E * 2 ^ b) ≤ mag f r * 2 ^ b * 2 ^ drop := by rw [← hsc]; exact Nat.mul_le_mul_right _ h
  by_cases hc : K = 0 ∨ (E ≠ 0 ∧ K = f.binade)
  · rcases hc with hc | ⟨hE, hc⟩
    · rcases hK1 with h0 | h0
      · rw [h0, hc] at hn; omega
      · omega
    · have h3 : f.binade * 2 ^ drop ≤ m * 2 ^ up := by rcases s.lo with h | h; exact absurd h hE; exact h
      have hR := mag_at f E K hK1 hK2
      have hlt : mag f r < mag f (E * f.binade + K) := mag_mono f (by omega)
      rw [hR, hc] at hlt
      have : f.binade * 2 ^ drop * (2 ^ E * 2 ^ b) ≤ mag f r * 2 ^ b * 2 ^ drop := Nat.le_trans (Nat.mul_le_mul_right _ h3) hm2
      have e1 : f.binade * 2 ^ drop * (2 ^ E * 2 ^ b) = f.binade * 2 ^ E * (2 ^ b * 2 ^ drop) := by ac_rfl
      have e2 : mag f r * 2 ^ b * 2 ^ drop = mag f r * (2 ^ b * 2 ^ drop) := by ac_rfl
      rw [e1, e2] at this
      have := Nat.le_of_mul_le_mul_right this (Nat.mul_pos (Nat.two_pow_pos _) (Nat.two_pow_pos _))
      omega
  · have hKp : 0 < K := by omega
    have hKp' : E = 0 ∨ f.binade ≤ K - 1 := by omega
    have e0 : E * f.binade + K - 1 = E * f.binade + (K - 1) := by omega
    rw [e0, mag_at f E (K - 1) hKp' (by omega)] at hmr
    have h4 : mag f r * 2 ^ b * 2 ^ drop ≤ (K - 1) * 2 ^ E * 2 ^ b * 2 ^ drop := Nat.mul_le_mul_right _ (Nat.mul_le_mul_right _ hmr)
    have h5 := Nat.le_trans hm2 h4
    have e1 : (K - 1) * 2 ^ E * 2 ^ b * 2 ^ drop = (K - 1) * 2 ^ drop * (2 ^ E * 2 ^ b) := by ac_rfl
    rw [e1] at h5
    have h6 := Nat.le_of_mul_le_mul_right h5 hq
    have h7 := cut_le false _ _ _ h6
    rw [← s.cut] at h7
    omega

theorem le_rung (f : Format) (m : Nat) (p : Int) (r a b : Nat) (hp : p - f.leastPlace = (a : Int) - b) (hi : r ≤ f.infRung) (h : mag f r * 2 ^ b ≤ m * 2 ^ a) : r ≤ rungOf f m p := by
  by_cases hm : m = 0
  · subst hm
    have : mag f r = 0 := by
      rcases Nat.eq_zero_or_pos (mag f r) with h1 | h1
      · exact h1
      · have := Nat.mul_pos h1 (Nat.two_pow_pos b); omega
    rcases Nat.eq_zero_or_pos r with h1 | h1
    · omega
    · have := mag_mono f h1; omega
  obtain ⟨E, K, up, drop, s⟩ := rung_spec f m p hm
  rw [s.rung]
  refine Nat.le_min.2 ⟨?_, hi⟩
  have hb := binade_pos f
  have hsc := scale_eq m a b up E drop (by have := s.pl; omega)
  have hq : 0 < 2 ^ E * 2 ^ b := Nat.mul_pos (Nat.two_pow_pos _) (Nat.two_pow_pos _)
  have hK2 : K ≤ 2 * f.binade := by rw [s.cut]; exact cut_le _ _ _ _ (Nat.le_of_lt s.hi)
  have hK1 : E = 0 ∨ f.binade ≤ K := by
    rcases s.lo with h | h
    · exact Or.inl h
    · exact Or.inr (by rw [s.cut]; exact le_cut _ _ _ _ h)
  apply Classical.byContradiction
  intro hn
  have hm2 : mag f r * 2 ^ b * 2 ^ drop ≤ m * 2 ^ up * (2 ^ E * 2 ^ b) := by rw [← hsc]; exact Nat.mul_le_mul_right _ h
  have fin : ∀ K', K' * 2 ^ E ≤ mag f r → K' * 2 ^ drop ≤ m * 2 ^ up := fun K' hK' => by
    have h4 : K' * 2 ^ E * 2 ^ b * 2 ^ drop ≤ mag f r * 2 ^ b * 2 ^ drop := Nat.mul_le_mul_right _ (Nat.mul_le_mul_right _ hK')
    have h5 := Nat.le_trans h4 hm2
    have e1 : K' * 2 ^ E * 2 ^ b * 2 ^ drop = K' * 2 ^ drop * (2 ^ E * 2 ^ b) := by ac_rfl
    rw [e1] at h5
    exact Nat.le_of_mul_le_mul_right h5 hq
  rcases Nat.lt_or_ge K (2 * f.binade) with h3 | h3
  · have := mag_le f (show E * f.binade + (K + 1) ≤ r by omega)
    rw [mag_at f E (K + 1) (by omega) (by omega)] at this
    have := le_cut false _ _ _ (fin _ this)
    rw [← s.cut] at this
    omega
  · have := mag_le f (show E * f.binade + K ≤ r by omega)
    rw [mag_at f E K hK1 hK2] at this
    have h4 := fin _ this
    have : K = 2 * f.binade := by omega
    rw [this] at h4
    have := s.hi
    omega

/-- A number that is a word's is written as it. -/
theorem rung_exact (f : Format) (m : Nat) (p : Int) (r a b : Nat) (hp : p - f.leastPlace = (a : Int) - b) (hi : r ≤ f.infRung) (h : m * 2 ^ a = mag f r * 2 ^ b) : rungOf f m p = r :=
  Nat.le_antisymm (rung_le f m p r a b hp (Nat.le_of_eq h)) (le_rung f m p r a b hp hi (Nat.le_of_eq h.symm))
end Go.Proofs.Ytpbafacehmjdmaa

namespace Go.Proofs.Ytpbafacehmjdmaa
open Ieee
set_option linter.unusedSimpArgs false
set_option linter.unusedVariables false
set_option maxRecDepth 100000

/-- The rung and the sign of a word. -/
def rgF (k : FloatKind) (w : Nat) : Nat := w % k.format.signWeight
def sg (k : FloatKind) (w : Nat) : Bool := w / k.format.signWeight % 2 == 1
def oneW : FloatKind → Nat
  | .f32 => 1065353216
  | .f64 => 4607182418800017408
def lp : FloatKind → Nat
  | .f32 => 149
  | .f64 => 1074
theorem lp_eq (k : FloatKind) : k.format.leastPlace = -((lp k : Nat) : Int) := by cases k <;> rfl
theorem mag_one (k : FloatKind) : mag k.format (oneW k) = 2 ^ lp k := by cases k <;> decide +kernel
theorem one_lt (k : FloatKind) : oneW k < k.format.infRung := by cases k <;> decide
theorem inf_lt (k : FloatKind) : k.format.infRung < k.format.signWeight := Format.infRung_lt _

structure Fin (k : FloatKind) (w m e : Nat) : Prop where
  read : k.format.read w = .number (sg k w) m (-((lp k : Nat) : Int) + (e : Int))
  val : m * 2 ^ e = mag k.format (rgF k w)
theorem fin_of {k : FloatKind} {w : Nat} (h : rgF k w < k.format.infRung) : ∃ m e, Fin k w m e := by
  have hn : isNum k w = true := (isNum_iff k w).2 (Nat.le_of_lt h)
  rcases read_num k w hn with ⟨_, m, e, h1, h2⟩ | ⟨h1, _⟩
  · exact ⟨m, e, by rw [h1, lp_eq]; rfl, h2⟩
  · unfold rgF at h; omega
theorem rg_word (k : FloatKind) (s : Bool) (r : Nat) (h : r < k.format.signWeight) : rgF k (k.format.word s r) = r := word_mod _ _ _ h
theorem sg_word (k : FloatKind) (s : Bool) (r : Nat) (h : r < k.format.signWeight) : sg k (k.format.word s r) = s := sign_word _ _ _ h

/-- A number written that is at most 1. -/
theorem write_le (k : FloatKind) (s : Bool) (m : Nat) (p : Int) (r a b : Nat) (hr : r ≤ k.format.infRung) (hp : p + (lp k : Nat) = (a : Int) - b) (h : m * 2 ^ a ≤ mag k.format r * 2 ^ b) :
    rgF k (k.format.write (.number s m p)) ≤ r ∧ sg k (k.format.write (.number s m p)) = s := by
  have h1 := rung_le k.format m p r a b (by rw [lp_eq]; omega) h
  have h2 := inf_lt k
  have e : k.format.write (.number s m p) = k.format.word s (rungOf k.format m p) := nearest_rung _ _ _ _
  rw [e, rg_word _ _ _ (by omega), sg_word _ _ _ (by omega)]
  exact ⟨h1, rfl⟩

def U (k : FloatKind) (w : Nat) : Prop := rgF k w ≤ oneW k
theorem U.lt {k : FloatKind} {w : Nat} (h : U k w) : rgF k w < k.format.infRung := Nat.lt_of_le_of_lt h (one_lt k)
theorem U.mag {k : FloatKind} {w m e : Nat} (h : U k w) (hf : Fin k w m e) : m * 2 ^ e ≤ 2 ^ lp k := by
  rw [hf.val, ← mag_one]; exact mag_le _ h

theorem mul_U {k : FloatKind} {x y : Nat} (hx : U k x) (hy : U k y) : ∃ z, floatBits .mul k x y = some z ∧ U k z ∧ sg k z = (sg k x ^^ sg k y) := by
  obtain ⟨m, i, fx⟩ := fin_of hx.lt
  obtain ⟨n, j, fy⟩ := fin_of hy.lt
  have hz : floatBits .mul k x y = some (k.format.write (.number (sg k x ^^ sg k y) (m * n) (-((lp k : Nat) : Int) + (i : Int) + (-((lp k : Nat) : Int) + (j : Int))))) := by
    show k.format.mul x y = _
    unfold Format.mul
    rw [fx.read, fy.read]; rfl
  have h1 := hx.mag fx
  have h2 := hy.mag fy
  obtain ⟨g1, g2⟩ := write_le k (sg k x ^^ sg k y) (m * n) (-((lp k : Nat) : Int) + (i : Int) + (-((lp k : Nat) : Int) + (j : Int))) (oneW k) (i + j) (lp k) (Nat.le_of_lt (one_lt k)) (by omega) (by
    rw [mag_one, Nat.pow_add]
    have := Nat.mul_le_mul h1 h2
    calc m * n * (2 ^ i * 2 ^ j) = m * 2 ^ i * (n * 2 ^ j) := by ac_rfl
      _ ≤ 2 ^ lp k * 2 ^ lp k := this)
  exact ⟨_, hz, g1, g2⟩

theorem pow_le_of {a b : Nat} (h : a ≤ b) : 2 ^ a ≤ 2 ^ b := Nat.pow_le_pow_right (by omega) h

/-- A quotient of a number by one that is no less. -/
theorem div_U {k : FloatKind} {x y : Nat} (hx : rgF k x < k.format.infRung) (hy : rgF k y < k.format.infRung) (h0 : 0 < rgF k y) (hxy : rgF k x ≤ rgF k y) : ∃ z, floatBits .quo k x y = some z ∧ U k z ∧ sg k z = (sg k x ^^ sg k y) := by
  obtain ⟨m, i, fx⟩ := fin_of hx
  obtain ⟨n, j, fy⟩ := fin_of hy
  have hv : m * 2 ^ i ≤ n * 2 ^ j := by rw [fx.val, fy.val]; exact mag_le _ hxy
  have hn : n ≠ 0 := by
    intro h; subst h
    have := mag_mono k.format h0
    rw [← fy.val] at this; simp at this
  generalize hmore : k.format.fractionBits + 2 + n.log2 - m.log2 = more
  have hz : floatBits .quo k x y = some (k.format.write (.number (sg k x ^^ sg k y) (2 * (m <<< more / n) + (m <<< more % n != 0).toNat) (-((lp k : Nat) : Int) + (i : Int) - (-((lp k : Nat) : Int) + (j : Int)) - more - 1))) := by
    show k.format.div x y = _
    unfold Format.div
    rw [fx.read, fy.read]
    simp only [Datum.quotient, if_neg hn, hmore, Option.map_some]
  have hn1 : 2 ^ n.log2 ≤ n := Nat.log2_self_le hn
  have hn2 : n < 2 ^ (n.log2 + 1) := Nat.lt_log2_self
  -- the bound
  have key : ∀ q st : Nat, q = m * 2 ^ more / n → st = (m * 2 ^ more % n != 0).toNat → ∃ a b : Nat, ((i : Int) - j - more - 1 + (lp k : Nat) = (a : Int) - b) ∧ (2 * q + st) * 2 ^ a ≤ 2 ^ lp k * 2 ^ b := by
    intro q st hq hst
    by_cases hm : m = 0
    · subst hm
      have q0 : q = 0 := by rw [hq]; simp
      have s0 : st = 0 := by rw [hst]; simp
      refine ⟨i + lp k, j + more + 1, by omega, ?_⟩
      rw [q0, s0]; simp
    have hm1 : 2 ^ m.log2 ≤ m := Nat.log2_self_le hm
    -- the dividend is great: so the exponents fall
    have hD : n < m * 2 ^ more := by
      have h1 : n.log2 + 1 ≤ m.log2 + more := by omega
      calc n < 2 ^ (n.log2 + 1) := hn2
        _ ≤ 2 ^ (m.log2 + more) := pow_le_of h1
        _ = 2 ^ m.log2 * 2 ^ more := Nat.pow_add _ _ _
        _ ≤ m * 2 ^ more := Nat.mul_le_mul_right _ hm1
    -- m * 2 ^ more * 2 ^ i ≤ n * 2 ^ j * 2 ^ more, so j + more > i
    have hs : i < j + more := by
      rcases Nat.lt_or_ge i (j + more) with h | h
      · exact h
      · exfalso
        have h1 : n * 2 ^ (j + more) < m * 2 ^ more * 2 ^ i := by
          calc n * 2 ^ (j + more) < m * 2 ^ more * 2 ^ (j + more) := Nat.mul_lt_mul_of_pos_right hD (Nat.two_pow_pos _)
            _ ≤ m * 2 ^ more * 2 ^ i := Nat.mul_le_mul_left _ (pow_le_of h)
        have h2 : m * 2 ^ more * 2 ^ i ≤ n * 2 ^ (j + more) := by
          have := Nat.mul_le_mul_right (2 ^ more) hv
          rw [Nat.pow_add]
          calc m * 2 ^ more * 2 ^ i = m * 2 ^ i * 2 ^ more := by ac_rfl
            _ ≤ n * 2 ^ j * 2 ^ more := this
            _ = n * (2 ^ j * 2 ^ more) := by ac_rfl
        omega
    obtain ⟨S, hS⟩ : ∃ S, j + more = i + S := ⟨j + more - i, by omega⟩
    have hle : m * 2 ^ more ≤ n * 2 ^ S := by
      have h2 : m * 2 ^ more * 2 ^ i ≤ n * 2 ^ S * 2 ^ i := by
        have := Nat.mul_le_mul_right (2 ^ more) hv
        calc m * 2 ^ more * 2 ^ i = m * 2 ^ i * 2 ^ more := by ac_rfl
          _ ≤ n * 2 ^ j * 2 ^ more := this
          _ = n * 2 ^ (j + more) := by rw [Nat.pow_add]; ac_rfl
          _ = n * 2 ^ (i + S) := by rw [hS]
          _ = n * 2 ^ S * 2 ^ i := by rw [Nat.pow_add]; ac_rfl
      exact Nat.le_of_mul_le_mul_right h2 (Nat.two_pow_pos _)
    have hfin : 2 * q + st ≤ 2 ^ (S + 1) := by
      have hdm := Nat.div_add_mod (m * 2 ^ more) n
      rw [← hq] at hdm
      rw [Nat.pow_succ]
      by_cases hr : m * 2 ^ more % n = 0
      · have s0 : st = 0 := by rw [hst, hr]; rfl
        rw [hr] at hdm
        have : n * q ≤ n * 2 ^ S := by omega
        have := Nat.le_of_mul_le_mul_left this (by omega)
        omega
      · have s1 : st ≤ 1 := by rw [hst]; exact Bool.toNat_le _
        have : n * q < n * 2 ^ S := by omega
        have := Nat.lt_of_mul_lt_mul_left this
        omega
    refine ⟨lp k, S + 1, by omega, ?_⟩
    rw [Nat.mul_comm (2 ^ lp k)]
    exact Nat.mul_le_mul_right _ hfin
  obtain ⟨a, b, k1, k2⟩ := key _ _ rfl rfl
  rw [Nat.shiftLeft_eq] at hz
  obtain ⟨g1, g2⟩ := write_le k (sg k x ^^ sg k y) _ (-((lp k : Nat) : Int) + (i : Int) - (-((lp k : Nat) : Int) + (j : Int)) - more - 1) (oneW k) a b (Nat.le_of_lt (one_lt k)) (by omega) (by rw [mag_one]; exact k2)
  exact ⟨_, hz, g1, g2⟩

theorem sg_zero (k : FloatKind) : sg k (oneW k) = false := by cases k <;> decide
theorem rg_one (k : FloatKind) : rgF k (oneW k) = oneW k := by cases k <;> decide
theorem U_one (k : FloatKind) : U k (oneW k) := Nat.le_of_eq (rg_one k)

/-- 1 less a number between 0 and 1. -/
theorem sub_U {k : FloatKind} {y : Nat} (hy : U k y) (hs : sg k y = true) : ∃ z, floatBits .add k (oneW k) y = some z ∧ U k z ∧ sg k z = false := by
  obtain ⟨m, i, fx⟩ := fin_of (U_one k).lt
  obtain ⟨n, j, fy⟩ := fin_of hy.lt
  have h1 : m * 2 ^ i = 2 ^ lp k := by rw [fx.val, rg_one, mag_one]
  have h2 := hy.mag fy
  rw [← h1] at h2
  have e0 : min (-((lp k : Nat) : Int) + (i : Int)) (-((lp k : Nat) : Int) + (j : Int)) = -((lp k : Nat) : Int) + ((min i j : Nat) : Int) := by omega
  have e1 : (-((lp k : Nat) : Int) + (i : Int) - min (-((lp k : Nat) : Int) + (i : Int)) (-((lp k : Nat) : Int) + (j : Int))).toNat = i - min i j := by omega
  have e2 : (-((lp k : Nat) : Int) + (j : Int) - min (-((lp k : Nat) : Int) + (i : Int)) (-((lp k : Nat) : Int) + (j : Int))).toNat = j - min i j := by omega
  have hsum : ∃ t : Nat, (m <<< (i - min i j) : Nat) = t + (n <<< (j - min i j) : Nat) := by
    refine ⟨m <<< (i - min i j) - n <<< (j - min i j), ?_⟩
    have : n <<< (j - min i j) ≤ m <<< (i - min i j) := by
      rw [Nat.shiftLeft_eq, Nat.shiftLeft_eq]
      refine Nat.le_of_mul_le_mul_right (c := 2 ^ min i j) ?_ (Nat.two_pow_pos _)
      rw [Nat.mul_assoc, Nat.mul_assoc, ← Nat.pow_add, ← Nat.pow_add, Nat.sub_add_cancel (Nat.min_le_left _ _), Nat.sub_add_cancel (Nat.min_le_right _ _)]
      exact h2
    omega
  obtain ⟨t, ht⟩ := hsum
  have hz : floatBits .add k (oneW k) y = some (k.format.write (.number false t (min (-((lp k : Nat) : Int) + (i : Int)) (-((lp k : Nat) : Int) + (j : Int))))) := by
    show k.format.add (oneW k) y = _
    unfold Format.add
    rw [fx.read, fy.read, hs, sg_zero]
    simp only [Datum.sum, e1, e2, signed, Bool.false_eq_true, if_false, if_true, Option.map_some, ht]
    have e3 : ((t + n <<< (j - min i j) : Nat) : Int) + -((n <<< (j - min i j) : Nat) : Int) = (t : Int) := by omega
    rw [e3]
    have e4 : (if (t : Int) = 0 then false && true else decide ((t : Int) < 0)) = false := by split <;> simp
    rw [e4]
    simp
  have hb : t * 2 ^ (min i j) ≤ 2 ^ lp k := by
    have h3 : t ≤ m <<< (i - min i j) := by rw [ht]; exact Nat.le_add_right _ _
    rw [Nat.shiftLeft_eq] at h3
    calc t * 2 ^ (min i j) ≤ m * 2 ^ (i - min i j) * 2 ^ (min i j) := Nat.mul_le_mul_right _ h3
      _ = m * 2 ^ i := by rw [Nat.mul_assoc, ← Nat.pow_add, Nat.sub_add_cancel (Nat.min_le_left _ _)]
      _ = 2 ^ lp k := h1
  obtain ⟨g1, g2⟩ := write_le k false t (min (-((lp k : Nat) : Int) + (i : Int)) (-((lp k : Nat) : Int) + (j : Int))) (oneW k) (min i j) 0 (Nat.le_of_lt (one_lt k)) (by rw [e0]; omega) (by rw [mag_one]; simpa using hb)
  exact ⟨_, hz, g1, g2⟩

/-- Narrowed. -/
theorem narrow_U {w : Nat} (h : U .f64 w) : ∃ z, cvC .f64 .f32 (some w) = some (some z) ∧ U .f32 z ∧ sg .f32 z = sg .f64 w := by
  obtain ⟨m, i, fx⟩ := fin_of h.lt
  have h1 := h.mag fx
  obtain ⟨d, hd⟩ : ∃ d : Nat, lp .f64 = lp .f32 + d := ⟨925, rfl⟩
  have g := write_le .f32 (sg .f64 w) m (-((lp .f64 : Nat) : Int) + (i : Int)) (oneW .f32) i d (Nat.le_of_lt (one_lt .f32)) (by omega) (by
    rw [mag_one, ← Nat.pow_add, ← hd]; exact h1)
  refine ⟨FloatKind.f32.encode (.number (sg .f64 w) m (-((lp .f64 : Nat) : Int) + (i : Int))), ?_, g.1, g.2⟩
  unfold cvC
  rw [if_neg (by decide)]
  have hd : FloatKind.f64.decode w = .number (sg .f64 w) m (-((lp .f64 : Nat) : Int) + (i : Int)) := fx.read
  simp only [hd]
  obtain ⟨m', e', hf⟩ := fin_of (k := .f32) (w := FloatKind.f32.encode (.number (sg .f64 w) m (-((lp .f64 : Nat) : Int) + (i : Int)))) (Nat.lt_of_le_of_lt g.1 (one_lt .f32))
  have hd2 : FloatKind.f32.decode (FloatKind.f32.encode (.number (sg .f64 w) m (-((lp .f64 : Nat) : Int) + (i : Int)))) = _ := hf.read
  rw [hd2]
  rfl
end Go.Proofs.Ytpbafacehmjdmaa

namespace Go.Proofs.Ytpbafacehmjdmaa
open Ieee
set_option linter.unusedSimpArgs false
set_option linter.unusedVariables false
set_option maxRecDepth 100000

theorem read_inf {k : FloatKind} {w : Nat} (h : rgF k w = k.format.infRung) : k.format.read w = .infinity (sg k w) := by
  have hn : isNum k w = true := (isNum_iff k w).2 (Nat.le_of_eq h)
  rcases read_num k w hn with ⟨h1, _⟩ | ⟨_, h2⟩
  · unfold rgF at h; omega
  · rw [h2]; rfl
theorem sg_write (k : FloatKind) (s : Bool) (m : Nat) (p : Int) : sg k (k.format.write (.number s m p)) = s := by
  have e : k.format.write (.number s m p) = k.format.word s (rungOf k.format m p) := nearest_rung _ _ _ _
  have h2 := inf_lt k
  have h3 : rungOf k.format m p ≤ k.format.infRung := by
    unfold rungOf
    split
    · exact Nat.zero_le _
    · exact Nat.min_le_right _ _
  rw [e, sg_word _ _ _ (by omega)]
theorem sg_write_inf (k : FloatKind) (s : Bool) : sg k (k.format.write (.infinity s)) = s := sg_word _ _ _ (inf_lt k)
theorem rg_write_inf (k : FloatKind) (s : Bool) : rgF k (k.format.write (.infinity s)) = k.format.infRung := rg_word _ _ _ (inf_lt k)
theorem mul_sg {k : FloatKind} {x y : Nat} (hx : rgF k x < k.format.infRung) (hy : rgF k y < k.format.infRung) : ∃ z, floatBits .mul k x y = some z ∧ isNum k z = true ∧ sg k z = (sg k x ^^ sg k y) := by
  obtain ⟨m, i, fx⟩ := fin_of hx
  obtain ⟨n, j, fy⟩ := fin_of hy
  have hz : floatBits .mul k x y = some (k.format.write (.number (sg k x ^^ sg k y) (m * n) (-((lp k : Nat) : Int) + (i : Int) + (-((lp k : Nat) : Int) + (j : Int))))) := by
    show k.format.mul x y = _
    unfold Format.mul
    rw [fx.read, fy.read]; rfl
  exact ⟨_, hz, floatBits_num hz, sg_write _ _ _ _⟩
theorem div_sg {k : FloatKind} {x y : Nat} (hx : isNum k x = true) (hy : rgF k y < k.format.infRung) (h0 : 0 < rgF k y) : ∃ z, floatBits .quo k x y = some z ∧ isNum k z = true ∧ sg k z = (sg k x ^^ sg k y) := by
  obtain ⟨n, j, fy⟩ := fin_of hy
  have hn : n ≠ 0 := by
    intro h; subst h
    have := mag_mono k.format h0
    rw [← fy.val] at this; simp at this
  have hx' : rgF k x ≤ k.format.infRung := (isNum_iff k x).1 hx
  rcases Nat.lt_or_ge (rgF k x) k.format.infRung with hlt | hge
  · obtain ⟨m, i, fx⟩ := fin_of hlt
    have hz : floatBits .quo k x y = some (k.format.write (.number (sg k x ^^ sg k y) (2 * (m <<< (k.format.fractionBits + 2 + n.log2 - m.log2) / n) + (m <<< (k.format.fractionBits + 2 + n.log2 - m.log2) % n != 0).toNat) (-((lp k : Nat) : Int) + (i : Int) - (-((lp k : Nat) : Int) + (j : Int)) - (k.format.fractionBits + 2 + n.log2 - m.log2 : Nat) - 1))) := by
      show k.format.div x y = _
      unfold Format.div
      rw [fx.read, fy.read]
      simp only [Datum.quotient, if_neg hn, Option.map_some]
    exact ⟨_, hz, floatBits_num hz, sg_write _ _ _ _⟩
  · have hr := read_inf (k := k) (w := x) (by omega)
    have hz : floatBits .quo k x y = some (k.format.write (.infinity (sg k x ^^ sg k y))) := by
      show k.format.div x y = _
      unfold Format.div
      rw [hr, fy.read]; rfl
    exact ⟨_, hz, floatBits_num hz, sg_write_inf _ _⟩

/-! Widened numbers. -/
def dW : Nat := 925
theorem dW_eq : (dW : Nat) = 925 := rfl
theorem wide_le {w : Nat} (h : rgF .f32 w < FloatKind.f32.format.infRung) (r r64 : Nat) (hr : rgF .f32 w ≤ r) (hr64 : r64 ≤ FloatKind.f64.format.infRung) (hm : mag FloatKind.f64.format r64 = mag FloatKind.f32.format r * 2 ^ dW) : rgF .f64 (wide w) ≤ r64 ∧ sg .f64 (wide w) = sg .f32 w := by
  obtain ⟨m, e, f⟩ := fin_of h
  have hw : wide w = FloatKind.f64.format.write (.number (sg .f32 w) m (-((lp .f32 : Nat) : Int) + (e : Int))) := by
    unfold wide
    have := f.read
    have e1 : Ieee.single.read w = _ := this
    rw [e1]; rfl
  rw [hw]
  refine write_le .f64 (sg .f32 w) m (-((lp .f32 : Nat) : Int) + (e : Int)) r64 (e + dW) 0 hr64 (by have := dW_eq; simp only [lp]; omega) ?_
  rw [hm, Nat.pow_add, ← Nat.mul_assoc, f.val, Nat.pow_zero, Nat.mul_one]
  exact Nat.mul_le_mul_right _ (mag_le _ hr)
theorem le_wide {w : Nat} (h : rgF .f32 w < FloatKind.f32.format.infRung) (r r64 : Nat) (hr : r ≤ rgF .f32 w) (hr64 : r64 ≤ FloatKind.f64.format.infRung) (hm : mag FloatKind.f64.format r64 = mag FloatKind.f32.format r * 2 ^ dW) : r64 ≤ rgF .f64 (wide w) := by
  obtain ⟨m, e, f⟩ := fin_of h
  have hw : wide w = FloatKind.f64.format.write (.number (sg .f32 w) m (-((lp .f32 : Nat) : Int) + (e : Int))) := by
    unfold wide
    have := f.read
    have e1 : Ieee.single.read w = _ := this
    rw [e1]; rfl
  have e2 : FloatKind.f64.format.write (.number (sg .f32 w) m (-((lp .f32 : Nat) : Int) + (e : Int))) = FloatKind.f64.format.word (sg .f32 w) (rungOf FloatKind.f64.format m (-((lp .f32 : Nat) : Int) + (e : Int))) := nearest_rung _ _ _ _
  have h3 : rungOf FloatKind.f64.format m (-((lp .f32 : Nat) : Int) + (e : Int)) ≤ FloatKind.f64.format.infRung := by
    unfold rungOf
    split
    · exact Nat.zero_le _
    · exact Nat.min_le_right _ _
  rw [hw, e2, rg_word _ _ _ (Nat.lt_of_le_of_lt h3 (inf_lt _))]
  refine le_rung _ m _ r64 (e + dW) 0 (by have := dW_eq; rw [lp_eq]; simp only [lp]; omega) hr64 ?_
  rw [hm, Nat.pow_add, ← Nat.mul_assoc, f.val, Nat.pow_zero, Nat.mul_one]
  exact Nat.mul_le_mul_right _ (mag_le _ hr)
theorem wide_infW {w : Nat} (h : rgF .f32 w = FloatKind.f32.format.infRung) : rgF .f64 (wide w) = FloatKind.f64.format.infRung ∧ sg .f64 (wide w) = sg .f32 w := by
  have e1 : Ieee.single.read w = _ := read_inf h
  have hw : wide w = FloatKind.f64.format.write (.infinity (sg .f32 w)) := by unfold wide; rw [e1]; rfl
  rw [hw]; exact ⟨rg_write_inf _ _, sg_write_inf _ _⟩
theorem sg_wide {w : Nat} (h : isNum .f32 w = true) : sg .f64 (wide w) = sg .f32 w := by
  have h1 : rgF .f32 w ≤ FloatKind.f32.format.infRung := (isNum_iff _ _).1 h
  rcases Nat.lt_or_ge (rgF .f32 w) FloatKind.f32.format.infRung with h2 | h2
  · obtain ⟨m, e, f⟩ := fin_of h2
    have hw : wide w = FloatKind.f64.format.write (.number (sg .f32 w) m (-((lp .f32 : Nat) : Int) + (e : Int))) := by
      unfold wide
      have := f.read
      have e1 : Ieee.single.read w = _ := this
      rw [e1]; rfl
    rw [hw]; exact sg_write _ _ _ _
  · exact (wide_infW (by omega)).2
theorem isNum_wide {w : Nat} (h : isNum .f32 w = true) : isNum .f64 (wide w) = true := by
  have h1 : rgF .f32 w ≤ FloatKind.f32.format.infRung := (isNum_iff _ _).1 h
  rcases Nat.lt_or_ge (rgF .f32 w) FloatKind.f32.format.infRung with h2 | h2
  · obtain ⟨m, e, f⟩ := fin_of h2
    have hw : wide w = FloatKind.f64.format.write (.number (sg .f32 w) m (-((lp .f32 : Nat) : Int) + (e : Int))) := by
      unfold wide
      have := f.read
      have e1 : Ieee.single.read w = _ := this
      rw [e1]; rfl
    rw [hw]; exact write_num .f64 _ rfl
  · rw [isNum_iff]; exact Nat.le_of_eq (wide_infW (by omega)).1

theorem key_neg {k : FloatKind} {w : Nat} (h : sg k w = true) : key k.format w = -((rgF k w : Nat) : Int) := by
  unfold key; unfold sg at h; rw [h]; rfl
theorem cmp_lt_iff {a b : Int} : (compare a b == .lt) = decide (a < b) := by
  rcases Int.lt_trichotomy a b with h | h | h
  · rw [cmp_lt h, decide_eq_true h]; rfl
  · rw [cmp_eq h, decide_eq_false (by omega)]; rfl
  · rw [cmp_gt h, decide_eq_false (by omega)]; rfl
theorem fLt_key (k : FloatKind) (a b : Nat) : fLt k (some a) (some b) = decide (key k.format a < key k.format b) := by
  have h : fLt k (some a) (some b) = (some (compare (key k.format a) (key k.format b)) == some .lt) := rfl
  rw [h]
  rcases Int.lt_trichotomy (key k.format a) (key k.format b) with h | h | h
  · rw [cmp_lt h, decide_eq_true h]; rfl
  · rw [cmp_eq h, decide_eq_false (by omega)]; rfl
  · rw [cmp_gt h, decide_eq_false (by omega)]; rfl

/-! The bounds -200 and 200. -/
theorem mag200 : mag FloatKind.f64.format 4641240890982006784 = mag FloatKind.f32.format 1128792064 * 2 ^ dW := by decide +kernel
theorem mag200' : mag FloatKind.f64.format (4641240890982006784 + 536870912) = mag FloatKind.f32.format 1128792065 * 2 ^ dW := by decide +kernel
theorem lt200 {w : Nat} (h : isNum .f32 w = true) (hs : sg .f32 w = true) : fLt .f64 (some (wide w)) (some 13864612927836782592) = fLt .f32 (some w) (some 3276275712) := by
  have h1 : rgF .f32 w ≤ FloatKind.f32.format.infRung := (isNum_iff _ _).1 h
  have hs' : sg .f64 (wide w) = true := by rw [sg_wide h]; exact hs
  rw [fLt_key, fLt_key, key_neg hs, key_neg hs']
  have e1 : key FloatKind.f64.format 13864612927836782592 = -4641240890982006784 := by decide +kernel
  have e2 : key FloatKind.f32.format 3276275712 = -1128792064 := by decide +kernel
  rw [e1, e2]
  have i64 : FloatKind.f64.format.infRung = 9218868437227405312 := rfl
  have i32 : FloatKind.f32.format.infRung = 2139095040 := rfl
  rcases Nat.lt_or_ge (rgF .f32 w) FloatKind.f32.format.infRung with h2 | h2
  · rcases Nat.lt_or_ge 1128792064 (rgF .f32 w) with h3 | h3
    · have := le_wide h2 1128792065 _ (by omega) (by rw [i64]; omega) mag200'
      rw [decide_eq_true (by omega), decide_eq_true (by omega)]
    · have := (wide_le h2 1128792064 _ h3 (by rw [i64]; omega) mag200).1
      rw [decide_eq_false (by omega), decide_eq_false (by omega)]
  · have := (wide_infW (w := w) (by omega)).1
    rw [decide_eq_true (by omega), decide_eq_true (by omega)]
theorem gt200 {k : FloatKind} {w c : Nat} (hs : sg k w = true) (hc : sg k c = false) : fGt k (some w) (some c) = false := by
  have h : fGt k (some w) (some c) = (some (compare (key k.format w) (key k.format c)) == some .gt) := rfl
  rw [h]
  have hk : key k.format c = ((rgF k c : Nat) : Int) := by unfold key; unfold sg at hc; rw [hc]; rfl
  rw [key_neg hs, hk]
  rcases Int.lt_trichotomy (-((rgF k w : Nat) : Int)) ((rgF k c : Nat) : Int) with h | h | h
  · rw [cmp_lt h]; rfl
  · rw [cmp_eq h]; rfl
  · omega

/-! The function. -/
def kF (j : Nat) : Nat := FloatKind.f64.nearest (12 - (j : Int))
def expT (w : Nat) : Option Nat := opC .quo .f64 (some (wide w)) (some 4643211215818981376)
def expP (t : Option Nat) : Nat → Option Nat
  | 0 => some 4607182418800017408
  | j + 1 => opC .add .f64 (some 4607182418800017408) (opC .quo .f64 (opC .mul .f64 t (expP t j)) (some (kF j)))
def expQ (p : Option Nat) : Nat → Option Nat
  | 0 => p
  | j + 1 => opC .mul .f64 (expQ p j) (expQ p j)
def expR (w : Nat) : Option Nat := if fLt .f32 (some w) (some 3276275712) then some 0 else (cvC .f64 .f32 (expQ (expP (expT w) 12) 8)).getD none
theorem kF_ok : ∀ j, j < 12 → oneW .f64 ≤ rgF .f64 (kF j) ∧ rgF .f64 (kF j) < FloatKind.f64.format.infRung ∧ sg .f64 (kF j) = false ∧ opC .sub .f64 (some (kF j)) (some 4607182418800017408) = some (kF (j + 1)) ∧ fGe .f64 (some (kF j)) (some 4607182418800017408) = true := by decide +kernel
theorem kF_end : fGe .f64 (some (kF 12)) (some 4607182418800017408) = false := by decide +kernel
theorem kF_0 : kF 0 = 4622945017495814144 := by decide +kernel
theorem expP_ok {t : Option Nat} (ht : ∃ w, t = some w ∧ U .f64 w ∧ sg .f64 w = true) : ∀ j, j ≤ 12 → ∃ p, expP t j = some p ∧ U .f64 p ∧ sg .f64 p = false
  | 0, _ => ⟨_, rfl, U_one .f64, sg_zero .f64⟩
  | j + 1, hj => by
    obtain ⟨w, rfl, hw, hs⟩ := ht
    obtain ⟨p, hp, hu, hps⟩ := expP_ok ⟨w, rfl, hw, hs⟩ j (by omega)
    obtain ⟨z1, e1, u1, s1⟩ := mul_U hw hu
    rw [hs, hps] at s1
    obtain ⟨k1, k2, k3, _, _⟩ := kF_ok j (by omega)
    obtain ⟨z2, e2, u2, s2⟩ := div_U (x := z1) (y := kF j) u1.lt k2 (Nat.lt_of_lt_of_le (by decide) k1) (Nat.le_trans u1 k1)
    rw [s1, k3] at s2
    obtain ⟨z3, e3, u3, s3⟩ := sub_U u2 s2
    refine ⟨z3, ?_, u3, s3⟩
    rw [expP, hp]
    simp only [opC, Option.bind_some, e1, e2]
    exact e3
theorem expQ_ok {p : Option Nat} (hp : ∃ w, p = some w ∧ U .f64 w ∧ sg .f64 w = false) : ∀ j, ∃ q, expQ p j = some q ∧ U .f64 q ∧ sg .f64 q = false
  | 0 => by obtain ⟨w, rfl, h⟩ := hp; exact ⟨w, rfl, h⟩
  | j + 1 => by
    obtain ⟨q, hq, hu, hs⟩ := expQ_ok hp j
    obtain ⟨z, e, u, s⟩ := mul_U hu hu
    rw [hs] at s
    exact ⟨z, by rw [expQ, hq]; exact e, u, by rw [s]; rfl⟩
theorem exp_ok {w : Nat} (h : isNum .f32 w = true) (hs : sg .f32 w = true) (hl : fLt .f32 (some w) (some 3276275712) = false) : ∃ z, cvC .f64 .f32 (expQ (expP (expT w) 12) 8) = some (some z) ∧ expR w = some z := by
  rw [fLt_key, key_neg hs] at hl
  have e2 : key FloatKind.f32.format 3276275712 = -1128792064 := by decide +kernel
  rw [e2] at hl
  have i32 : FloatKind.f32.format.infRung = 2139095040 := rfl
  have i64 : FloatKind.f64.format.infRung = 9218868437227405312 := rfl
  have hr : rgF .f32 w ≤ 1128792064 := by simp at hl; omega
  have g1 := wide_le (w := w) (by omega) 1128792064 _ hr (by rw [i64]; omega) mag200
  have c1 : rgF .f64 4643211215818981376 = 4643211215818981376 := by decide +kernel
  have c2 : sg .f64 4643211215818981376 = false := by decide +kernel
  obtain ⟨t, et, ut, st⟩ := div_U (k := .f64) (x := wide w) (y := 4643211215818981376) (by omega) (by omega) (by omega) (by omega)
  rw [g1.2, hs, c2] at st
  have ht : expT w = some t := et
  obtain ⟨p, ep, up, sp⟩ := expP_ok (t := expT w) ⟨t, ht, ut, st⟩ 12 (Nat.le_refl _)
  obtain ⟨q, eq, uq, sq⟩ := expQ_ok (p := expP (expT w) 12) ⟨p, ep, up, sp⟩ 8
  obtain ⟨z, ez, _, _⟩ := narrow_U uq
  refine ⟨z, by rw [eq]; exact ez, ?_⟩
  unfold expR
  rw [fLt_key, key_neg hs, e2, decide_eq_false (by omega), if_neg (by simp), eq, ez]; rfl
end Go.Proofs.Ytpbafacehmjdmaa

namespace Go.Proofs.Ytpbafacehmjdmaa
open Ieee
set_option linter.unusedSimpArgs false
set_option linter.unusedVariables false
set_option maxRecDepth 100000

theorem log2_two (n : Nat) (h : n ≠ 0) : (2 * n).log2 = n.log2 + 1 := by
  rw [Nat.log2_def, if_pos (by omega), Nat.mul_div_cancel_left _ (by omega)]
theorem cut_two (n d : Nat) (h : n ≠ 0) : Toward.even.cut false (2 * n) (d + 1) = Toward.even.cut false n d := by
  unfold Toward.cut
  simp only [Nat.shiftLeft_eq, Nat.one_mul, log2_two n h]
  rw [show min (d + 1) (n.log2 + 1 + 2) = min d (n.log2 + 2) + 1 by omega, Nat.pow_succ]
  generalize 2 ^ min d (n.log2 + 2) = gap
  rw [Nat.mul_comm gap 2, Nat.mul_div_mul_left _ _ (by omega), Nat.mul_mod_mul_left]
  generalize n / gap = low
  generalize n % gap = rest
  have e1 : decide (2 * gap < 2 * (2 * rest)) = decide (gap < 2 * rest) := decide_eq_decide.2 (by omega)
  have e2 : (2 * gap == 2 * (2 * rest)) = (gap == 2 * rest) := by
    rw [Bool.eq_iff_iff]; simp only [beq_iff_eq]; omega
  simp only [e1, e2]
theorem rung_two (f : Format) (m : Nat) (p : Int) : rungOf f (2 * m) (p - 1) = rungOf f m p := by
  by_cases hm : m = 0
  · subst hm; simp [rungOf]
  unfold rungOf
  rw [if_neg (by omega), if_neg hm]
  simp only [log2_two m hm, Nat.shiftLeft_eq]
  rw [show max (p - 1 + ((m.log2 + 1 : Nat) : Int) - f.fractionBits) f.leastPlace = max (p + m.log2 - f.fractionBits) f.leastPlace by omega]
  generalize max (p + m.log2 - f.fractionBits) f.leastPlace = last
  congr 2
  rcases (show last < p ∨ p ≤ last by omega) with h | h
  · rw [show (last - (p - 1)).toNat = 0 by omega, show (last - p).toNat = 0 by omega, show (p - last).toNat = (p - 1 - last).toNat + 1 by omega, Nat.pow_succ]
    congr 1
    ac_rfl
  · rw [show (p - 1 - last).toNat = 0 by omega, show (p - last).toNat = 0 by omega, show (last - (p - 1)).toNat = (last - p).toNat + 1 by omega, Nat.pow_zero, Nat.mul_one, Nat.mul_one]
    exact cut_two m _ hm
theorem rung_pow (f : Format) (m : Nat) (p : Int) : ∀ k : Nat, rungOf f (2 ^ k * m) (p - (k : Nat)) = rungOf f m p
  | 0 => by simp
  | k + 1 => by
    rw [Nat.pow_succ, Nat.mul_comm (2 ^ k) 2, Nat.mul_assoc, show p - ((k + 1 : Nat) : Int) = p - (k : Nat) - 1 by omega, rung_two, rung_pow f m p k]
theorem write_val (f : Format) (s : Bool) (m n : Nat) (p q : Int) (a b : Nat) (h : 2 ^ a * m = 2 ^ b * n) (hp : p - (a : Nat) = q - (b : Nat)) : f.write (.number s m p) = f.write (.number s n q) := by
  show f.nearest s m p = f.nearest s n q
  rw [nearest_rung, nearest_rung, ← rung_pow f m p a, ← rung_pow f n q b, h, hp]
theorem read32 {w : Nat} (h : rgF .f32 w < FloatKind.f32.format.infRung) : ∃ m p, FloatKind.f32.format.read w = .number (sg .f32 w) m p ∧ m < 16777216 := by
  unfold rgF at h
  unfold Format.read
  have hb : FloatKind.f32.format.binade = 8388608 := by decide
  by_cases h1 : w % FloatKind.f32.format.signWeight < FloatKind.f32.format.binade
  · exact ⟨_, _, by simp only [if_pos h1]; rfl, by omega⟩
  · refine ⟨_, _, by simp only [if_neg h1, if_pos h]; rfl, ?_⟩
    rw [hb]; omega
theorem half_bits {w : Nat} (h : rgF .f32 w < FloatKind.f32.format.infRung) : floatBits .quo .f32 w 1073741824 = floatBits .mul .f32 1056964608 w := by
  obtain ⟨m, p, hr, hm⟩ := read32 h
  have r2 : FloatKind.f32.format.read 1073741824 = .number false 8388608 (-22) := by decide +kernel
  have r5 : FloatKind.f32.format.read 1056964608 = .number false 8388608 (-24) := by decide +kernel
  have hl : (8388608 : Nat).log2 = 23 := by decide +kernel
  have hfb : FloatKind.f32.format.fractionBits = 23 := rfl
  have hm2 : m.log2 ≤ 24 := by
    rcases Nat.eq_zero_or_pos m with h0 | h0
    · subst h0; simp [Nat.log2_def]
    · have h1 : 2 ^ m.log2 ≤ m := Nat.log2_self_le (by omega)
      have h2 : 2 ^ m.log2 < 2 ^ 24 := Nat.lt_of_le_of_lt h1 (by omega)
      have := (Nat.pow_lt_pow_iff_right (a := 2) (by omega)).1 h2
      omega
  generalize hmore : FloatKind.f32.format.fractionBits + 2 + (8388608 : Nat).log2 - m.log2 = more
  rw [hfb, hl] at hmore
  obtain ⟨e, he⟩ : ∃ e, more = 23 + e := ⟨more - 23, by omega⟩
  have q1 : floatBits .quo .f32 w 1073741824 = some (FloatKind.f32.format.write (.number (sg .f32 w) (2 * (m <<< more / 8388608) + (m <<< more % 8388608 != 0).toNat) (p - (-22) - more - 1))) := by
    show FloatKind.f32.format.div w 1073741824 = _
    unfold Format.div
    rw [hr, r2]
    rw [← hmore]
    simp only [Datum.quotient, if_neg (show ¬ (8388608 : Nat) = 0 by omega), hfb, hl, Option.map_some, Bool.xor_false]
  have q2 : floatBits .mul .f32 1056964608 w = some (FloatKind.f32.format.write (.number (sg .f32 w) (8388608 * m) (-24 + p))) := by
    show FloatKind.f32.format.mul 1056964608 w = _
    unfold Format.mul
    rw [hr, r5]
    simp only [Datum.product, Option.map_some, Bool.false_xor]
    try rfl
  rw [q1, q2]
  congr 1
  have hd : m <<< more = 8388608 * (m * 2 ^ e) := by
    rw [Nat.shiftLeft_eq, he, Nat.pow_add]
    have : (2 : Nat) ^ 23 = 8388608 := by decide
    rw [this]; ac_rfl
  rw [hd, Nat.mul_div_cancel_left _ (by omega), Nat.mul_mod_right]
  refine write_val _ _ _ _ _ _ 23 (e + 1) ?_ (by omega)
  have e23 : (2 : Nat) ^ 23 = 8388608 := by decide
  rw [e23, Nat.pow_succ]
  simp only [bne_self_eq_false, Bool.toNat_false, Nat.add_zero]
  ac_rfl
theorem nearest_fin {n : Int} (h0 : -16777216 ≤ n) (h1 : n ≤ 16777216) : rgF .f32 (FloatKind.f32.nearest n) < FloatKind.f32.format.infRung := by
  have hm : mag FloatKind.f32.format 1266679808 = 16777216 * 2 ^ 149 := by decide +kernel
  have e : FloatKind.f32.nearest n = FloatKind.f32.format.write (.number (decide (n < 0)) n.natAbs 0) := rfl
  rw [e]
  obtain ⟨g1, g2⟩ := write_le .f32 (decide (n < 0)) n.natAbs 0 1266679808 149 0 (by decide) (by decide) (by rw [hm, Nat.pow_zero, Nat.mul_one]; exact Nat.mul_le_mul_right _ (by omega))
  have : (1266679808 : Nat) < FloatKind.f32.format.infRung := by decide
  omega
theorem half_op {n : Int} (h0 : -16777216 ≤ n) (h1 : n ≤ 16777216) : opC .quo .f32 (some (FloatKind.f32.nearest n)) (some 1073741824) = opC .mul .f32 (some 1056964608) (some (FloatKind.f32.nearest n)) := by
  show floatBits .quo .f32 _ _ = floatBits .mul .f32 _ _
  exact half_bits (nearest_fin h0 h1)
end Go.Proofs.Ytpbafacehmjdmaa

