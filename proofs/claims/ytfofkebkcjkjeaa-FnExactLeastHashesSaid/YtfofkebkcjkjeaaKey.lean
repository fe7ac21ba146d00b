/- Plain facts on floats: their order is that of whole numbers, their keys. -/
import Derived.Laws.FloatArith
namespace Go.Proofs.Ytfofkebkcjkjeaa
open Ieee
set_option linter.unusedSimpArgs false
set_option linter.unusedVariables false

/-- The magnitude of a finite rung, in units of the least place. -/
def mag (f : Format) (r : Nat) : Nat := if r < f.binade then r else (f.binade + r % f.binade) * 2 ^ (r / f.binade - 1)

theorem binade_pos (f : Format) : 0 < f.binade := Nat.two_pow_pos _

theorem mag_succ (f : Format) (r : Nat) : mag f r < mag f (r + 1) := by
  have hb := binade_pos f
  unfold mag
  by_cases h1 : r + 1 < f.binade
  · rw [if_pos (by omega), if_pos h1]; omega
  · rw [if_neg h1]
    by_cases h0 : r < f.binade
    · rw [if_pos h0]
      have e : r + 1 = f.binade := by omega
      rw [e, Nat.mod_self, Nat.div_self hb]; simp; omega
    · rw [if_neg h0]
      have hr := Nat.div_add_mod r f.binade
      have hm := Nat.mod_lt r hb
      have hq : 1 ≤ r / f.binade := (Nat.one_le_div_iff hb).2 (by omega)
      generalize hQ : r / f.binade = q at *
      generalize hM : r % f.binade = m at *
      by_cases hc : m + 1 < f.binade
      · have e1 : (r + 1) / f.binade = q := by
          rw [← hr, Nat.add_assoc, Nat.mul_add_div hb, Nat.div_eq_of_lt hc]; rfl
        have e2 : (r + 1) % f.binade = m + 1 := by
          rw [← hr, Nat.add_assoc, Nat.mul_add_mod, Nat.mod_eq_of_lt hc]
        rw [e1, e2]
        exact Nat.mul_lt_mul_of_pos_right (by omega) (Nat.two_pow_pos _)
      · have e0 : m + 1 = f.binade := by omega
        have e1 : (r + 1) / f.binade = q + 1 := by
          rw [← hr, Nat.add_assoc, e0, ← Nat.mul_succ, Nat.mul_div_cancel_left _ hb]
        have e2 : (r + 1) % f.binade = 0 := by
          rw [← hr, Nat.add_assoc, e0, ← Nat.mul_succ, Nat.mul_mod_right]
        rw [e1, e2]
        have e3 : q + 1 - 1 = (q - 1) + 1 := by omega
        rw [e3, Nat.pow_succ, Nat.add_zero, ← Nat.mul_assoc, Nat.mul_right_comm]
        exact Nat.mul_lt_mul_of_pos_right (by omega) (Nat.two_pow_pos _)

theorem mag_mono (f : Format) {a b : Nat} (h : a < b) : mag f a < mag f b := by
  induction b with
  | zero => omega
  | succ b ih =>
    by_cases e : a = b
    · subst e; exact mag_succ f a
    · exact Nat.lt_trans (ih (by omega)) (mag_succ f b)

/-- The key of a word: its rung, with its sign. -/
def key (f : Format) (w : Nat) : Int := if w / f.signWeight % 2 == 1 then -((w % f.signWeight : Nat) : Int) else ((w % f.signWeight : Nat) : Int)

theorem cmp_congr {a b c d : Int} (h1 : a < b ↔ c < d) (h2 : a = b ↔ c = d) : compare a b = compare c d := by
  show compareOfLessAndEq a b = compareOfLessAndEq c d
  unfold compareOfLessAndEq
  simp only [h1, h2]

def sgn (s : Bool) (n : Nat) : Int := if s then -(n : Int) else (n : Int)

theorem cmp_lt {x y : Int} (h : x < y) : compare x y = .lt := by
  show compareOfLessAndEq x y = .lt
  unfold compareOfLessAndEq
  rw [if_pos h]
theorem cmp_eq {x y : Int} (h : x = y) : compare x y = .eq := by
  show compareOfLessAndEq x y = .eq
  unfold compareOfLessAndEq
  rw [if_neg (by omega), if_pos h]
theorem cmp_gt {x y : Int} (h : y < x) : compare x y = .gt := by
  show compareOfLessAndEq x y = .gt
  unfold compareOfLessAndEq
  rw [if_neg (by omega), if_neg (by omega)]

theorem sgn_mono {g : Nat → Nat} (g0 : g 0 = 0) (hg : ∀ a b, a < b → g a < g b) (s t : Bool) (a b : Nat) : compare (sgn s (g a)) (sgn t (g b)) = compare (sgn s a) (sgn t b) := by
  have hle : ∀ a b, g a = g b ↔ a = b := fun a b => ⟨fun h => by
    rcases Nat.lt_trichotomy a b with h1 | h1 | h1
    · have := hg _ _ h1; omega
    · exact h1
    · have := hg _ _ h1; omega, fun h => by rw [h]⟩
  have hlt : ∀ a b, g a < g b ↔ a < b := fun a b => ⟨fun h => by
    rcases Nat.lt_trichotomy a b with h1 | h1 | h1
    · exact h1
    · subst h1; omega
    · have := hg _ _ h1; omega, hg a b⟩
  have p0 : ∀ a, 0 < g a ↔ 0 < a := fun a => by have := hlt 0 a; rw [g0] at this; exact this
  have h1 := hle a b; have h2 := hlt a b; have h3 := hlt b a; have h4 := p0 a; have h5 := p0 b
  refine cmp_congr ?_ ?_ <;> unfold sgn <;> cases s <;> cases t <;> simp <;> omega

theorem compare_mul (x y : Int) (c : Nat) (hc : 0 < c) : compare (x * c) (y * c) = compare x y :=
  cmp_congr (by constructor
                · exact fun h => Int.lt_of_mul_lt_mul_right h (by omega)
                · exact fun h => Int.mul_lt_mul_of_pos_right h (by omega))
    (by constructor
        · exact fun h => Int.eq_of_mul_eq_mul_right (by omega) h
        · exact fun h => by rw [h])

theorem mag_zero (f : Format) : mag f 0 = 0 := by unfold mag; rw [if_pos (binade_pos f)]

theorem key_eq (f : Format) (w : Nat) : key f w = sgn (w / f.signWeight % 2 == 1) (w % f.signWeight) := by
  unfold key sgn; rfl

def isNum (k : FloatKind) (w : Nat) : Bool := !(k.format.read w).isNaN

theorem bin_le (k : FloatKind) : k.format.binade ≤ k.format.infRung := by cases k <;> decide

/-- What a word that is no NaN stands for. -/
theorem read_num (k : FloatKind) (w : Nat) (h : isNum k w = true) :
    (w % k.format.signWeight < k.format.infRung ∧ ∃ m e : Nat, k.format.read w = .number (w / k.format.signWeight % 2 == 1) m (k.format.leastPlace + (e : Int)) ∧ m * 2 ^ e = mag k.format (w % k.format.signWeight)) ∨
    (w % k.format.signWeight = k.format.infRung ∧ k.format.read w = .infinity (w / k.format.signWeight % 2 == 1)) := by
  have hb := bin_le k
  unfold isNum Format.read at h
  unfold Format.read mag
  dsimp only at h ⊢
  split
  · exact Or.inl ⟨by omega, w % k.format.signWeight, 0, by simp, by simp⟩
  · rename_i h1
    rw [if_neg h1] at h
    split
    · exact Or.inl ⟨by assumption, _, _, rfl, rfl⟩
    · rename_i h2
      rw [if_neg h2] at h
      split
      · rename_i h3
        exact Or.inr ⟨h3, rfl⟩
      · rename_i h3
        rw [if_neg h3] at h
        simp [Datum.isNaN] at h

theorem isNum_iff (k : FloatKind) (w : Nat) : isNum k w = true ↔ w % k.format.signWeight ≤ k.format.infRung := by
  constructor
  · intro h
    rcases read_num k w h with ⟨h1, _⟩ | ⟨h1, _⟩ <;> omega
  · intro h
    have hb := bin_le k
    unfold isNum Format.read
    dsimp only
    split
    · rfl
    · split
      · rfl
      · rw [if_pos (by omega)]; rfl

theorem signed_scale (s : Bool) (m a c : Nat) : signed s m a * ((2 ^ c : Nat) : Int) = sgn s (m * 2 ^ (a + c)) := by
  unfold signed sgn
  rw [Nat.shiftLeft_eq, Nat.pow_add]
  cases s <;> simp [Int.neg_mul, Int.mul_assoc]

/-- The order of words that are no NaN is that of their keys. -/
theorem order_key (k : FloatKind) (a b : Nat) (ha : isNum k a = true) (hb : isNum k b = true) : k.format.order a b = some (compare (key k.format a) (key k.format b)) := by
  have key1 := key_eq k.format a
  have key2 := key_eq k.format b
  rw [key1, key2]
  unfold Format.order
  have hI : 0 < k.format.infRung := Nat.lt_of_lt_of_le (binade_pos _) (bin_le k)
  rcases read_num k a ha with ⟨l1, m, e, r1, v1⟩ | ⟨l1, r1⟩ <;> rcases read_num k b hb with ⟨l2, n, d, r2, v2⟩ | ⟨l2, r2⟩
  · rw [r1, r2]
    generalize (a / k.format.signWeight % 2 == 1) = s at *
    generalize (b / k.format.signWeight % 2 == 1) = t at *
    simp only [Datum.order]
    have e1 : (k.format.leastPlace + (e : Int) - min (k.format.leastPlace + (e : Int)) (k.format.leastPlace + (d : Int))).toNat = e - min e d := by omega
    have e2 : (k.format.leastPlace + (d : Int) - min (k.format.leastPlace + (e : Int)) (k.format.leastPlace + (d : Int))).toNat = d - min e d := by omega
    rw [e1, e2, ← compare_mul _ _ (2 ^ min e d) (Nat.two_pow_pos _), signed_scale, signed_scale, Nat.sub_add_cancel (Nat.min_le_left _ _), Nat.sub_add_cancel (Nat.min_le_right _ _), v1, v2]
    rw [sgn_mono (mag_zero _) (fun _ _ h => mag_mono _ h)]
  · rw [r1, r2, l2]
    generalize (a / k.format.signWeight % 2 == 1) = s at *
    generalize (b / k.format.signWeight % 2 == 1) = t at *
    simp only [Datum.order]
    congr 1
    cases t
    · rw [cmp_lt (by unfold sgn; cases s <;> simp <;> omega)]; rfl
    · rw [cmp_gt (by unfold sgn; cases s <;> simp <;> omega)]; rfl
  · rw [r1, r2, l1]
    generalize (a / k.format.signWeight % 2 == 1) = s at *
    generalize (b / k.format.signWeight % 2 == 1) = t at *
    simp only [Datum.order]
    congr 1
    cases s
    · rw [cmp_gt (by unfold sgn; cases t <;> simp <;> omega)]; rfl
    · rw [cmp_lt (by unfold sgn; cases t <;> simp <;> omega)]; rfl
  · rw [r1, r2, l1, l2]
    generalize (a / k.format.signWeight % 2 == 1) = s at *
    generalize (b / k.format.signWeight % 2 == 1) = t at *
    simp only [Datum.order]
    congr 1
    cases s <;> cases t
    · rw [cmp_eq rfl]; rfl
    · rw [cmp_gt (by unfold sgn; simp; omega)]; rfl
    · rw [cmp_lt (by unfold sgn; simp; omega)]; rfl
    · rw [cmp_eq rfl]; rfl

theorem order_nan (k : FloatKind) (a b : Nat) (h : isNum k a = false ∨ isNum k b = false) : k.format.order a b = none := by
  unfold isNum at h
  unfold Format.order
  cases hr : k.format.read a <;> cases hs : k.format.read b <;> simp_all [Datum.isNaN, Datum.order]

/-- One word a key and a sign, below the width. -/
theorem key_inj (k : FloatKind) (a b : Nat) (ha : a < 2 * k.format.signWeight) (hb : b < 2 * k.format.signWeight) (h : key k.format a = key k.format b) (hs : a / k.format.signWeight = b / k.format.signWeight) : a = b := by
  have h1 := Nat.div_add_mod a k.format.signWeight
  have h2 := Nat.div_add_mod b k.format.signWeight
  have : a % k.format.signWeight = b % k.format.signWeight := by
    unfold key at h
    rw [hs] at h
    split at h <;> omega
  rw [← h1, ← h2, hs, this]

end Go.Proofs.Ytfofkebkcjkjeaa
