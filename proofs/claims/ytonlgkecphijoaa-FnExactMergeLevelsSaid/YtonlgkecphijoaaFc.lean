/- Numbers between 0 and 1: products, quotients, differences of them are such. -/
import Derived.Test.YtonlgkecphijoaaFb
import Derived.Test.YtonlgkecphijoaaZm
namespace Go.Proofs.Ytonlgkecphijoaa
open Ieee
set_option linter.unusedSimpArgs false
set_option linter.unusedVariables false
set_option maxRecDepth 100000

/-- The rung and the sign of a word. -/
def rgF (k : FloatKind) (w : Nat) : Nat := w % k.format.signWeight
def sg (k : FloatKind) (w : Nat) : Bool := w / k.format.signWeight % 2 == 1
def oneW : FloatKind → Nat
  | .f32 => 1065353216
  | .f64 => 4607182418800017408
def lp : FloatKind → Nat
  | .f32 => 149
  | .f64 => 1074
theorem lp_eq (k : FloatKind) : k.format.leastPlace = -((lp k : Nat) : Int) := by cases k <;> rfl
theorem mag_one (k : FloatKind) : mag k.format (oneW k) = 2 ^ lp k := by cases k <;> decide +kernel
theorem one_lt (k : FloatKind) : oneW k < k.format.infRung := by cases k <;> decide
theorem inf_lt (k : FloatKind) : k.format.infRung < k.format.signWeight := Format.infRung_lt _

structure Fin (k : FloatKind) (w m e : Nat) : Prop where
  read : k.format.read w = .number (sg k w) m (-((lp k : Nat) : Int) + (e : Int))
  val : m * 2 ^ e = mag k.format (rgF k w)
theorem fin_of {k : FloatKind} {w : Nat} (h : rgF k w < k.format.infRung) : ∃ m e, Fin k w m e := by
  have hn : isNum k w = true := (isNum_iff k w).2 (Nat.le_of_lt h)
  rcases read_num k w hn with ⟨_, m, e, h1, h2⟩ | ⟨h1, _⟩
  · exact ⟨m, e, by rw [h1, lp_eq]; rfl, h2⟩
  · unfold rgF at h; omega
theorem rg_word (k : FloatKind) (s : Bool) (r : Nat) (h : r < k.format.signWeight) : rgF k (k.format.word s r) = r := word_mod _ _ _ h
theorem sg_word (k : FloatKind) (s : Bool) (r : Nat) (h : r < k.format.signWeight) : sg k (k.format.word s r) = s := sign_word _ _ _ h

/-- A number written that is at most 1. -/
theorem write_le (k : FloatKind) (s : Bool) (m : Nat) (p : Int) (r a b : Nat) (hr : r ≤ k.format.infRung) (hp : p + (lp k : Nat) = (a : Int) - b) (h : m * 2 ^ a ≤ mag k.format r * 2 ^ b) :
    rgF k (k.format.write (.number s m p)) ≤ r ∧ sg k (k.format.write (.number s m p)) = s := by
  have h1 := rung_le k.format m p r a b (by rw [lp_eq]; omega) h
  have h2 := inf_lt k
  have e : k.format.write (.number s m p) = k.format.word s (rungOf k.format m p) := nearest_rung _ _ _ _
  rw [e, rg_word _ _ _ (by omega), sg_word _ _ _ (by omega)]
  exact ⟨h1, rfl⟩

def U (k : FloatKind) (w : Nat) : Prop := rgF k w ≤ oneW k
theorem U.lt {k : FloatKind} {w : Nat} (h : U k w) : rgF k w < k.format.infRung := Nat.lt_of_le_of_lt h (one_lt k)
theorem U.mag {k : FloatKind} {w m e : Nat} (h : U k w) (hf : Fin k w m e) : m * 2 ^ e ≤ 2 ^ lp k := by
  rw [hf.val, ← mag_one]; exact mag_le _ h

theorem mul_U {k : FloatKind} {x y : Nat} (hx : U k x) (hy : U k y) : ∃ z, floatBits .mul k x y = some z ∧ U k z ∧ sg k z = (sg k x ^^ sg k y) := by
  obtain ⟨m, i, fx⟩ := fin_of hx.lt
  obtain ⟨n, j, fy⟩ := fin_of hy.lt
  have hz : floatBits .mul k x y = some (k.format.write (.number (sg k x ^^ sg k y) (m * n) (-((lp k : Nat) : Int) + (i : Int) + (-((lp k : Nat) : Int) + (j : Int))))) := by
    show k.format.mul x y = _
    unfold Format.mul
    rw [fx.read, fy.read]; rfl
  have h1 := hx.mag fx
  have h2 := hy.mag fy
  obtain ⟨g1, g2⟩ := write_le k (sg k x ^^ sg k y) (m * n) (-((lp k : Nat) : Int) + (i : Int) + (-((lp k : Nat) : Int) + (j : Int))) (oneW k) (i + j) (lp k) (Nat.le_of_lt (one_lt k)) (by omega) (by
    rw [mag_one, Nat.pow_add]
    have := Nat.mul_le_mul h1 h2
    calc m * n * (2 ^ i * 2 ^ j) = m * 2 ^ i * (n * 2 ^ j) := by ac_rfl
      _ ≤ 2 ^ lp k * 2 ^ lp k := this)
  exact ⟨_, hz, g1, g2⟩

theorem pow_le_of {a b : Nat} (h : a ≤ b) : 2 ^ a ≤ 2 ^ b := Nat.pow_le_pow_right (by omega) h

/-- A quotient of a number by one that is no less. -/
theorem div_U {k : FloatKind} {x y : Nat} (hx : rgF k x < k.format.infRung) (hy : rgF k y < k.format.infRung) (h0 : 0 < rgF k y) (hxy : rgF k x ≤ rgF k y) : ∃ z, floatBits .quo k x y = some z ∧ U k z ∧ sg k z = (sg k x ^^ sg k y) := by
  obtain ⟨m, i, fx⟩ := fin_of hx
  obtain ⟨n, j, fy⟩ := fin_of hy
  have hv : m * 2 ^ i ≤ n * 2 ^ j := by rw [fx.val, fy.val]; exact mag_le _ hxy
  have hn : n ≠ 0 := by
    intro h; subst h
    have := mag_mono k.format h0
    rw [← fy.val] at this; simp at this
  generalize hmore : k.format.fractionBits + 2 + n.log2 - m.log2 = more
  have hz : floatBits .quo k x y = some (k.format.write (.number (sg k x ^^ sg k y) (2 * (m <<< more / n) + (m <<< more % n != 0).toNat) (-((lp k : Nat) : Int) + (i : Int) - (-((lp k : Nat) : Int) + (j : Int)) - more - 1))) := by
    show k.format.div x y = _
    unfold Format.div
    rw [fx.read, fy.read]
    simp only [Datum.quotient, if_neg hn, hmore, Option.map_some]
  have hn1 : 2 ^ n.log2 ≤ n := Nat.log2_self_le hn
  have hn2 : n < 2 ^ (n.log2 + 1) := Nat.lt_log2_self
  -- the bound
  have key : ∀ q st : Nat, q = m * 2 ^ more / n → st = (m * 2 ^ more % n != 0).toNat → ∃ a b : Nat, ((i : Int) - j - more - 1 + (lp k : Nat) = (a : Int) - b) ∧ (2 * q + st) * 2 ^ a ≤ 2 ^ lp k * 2 ^ b := by
    intro q st hq hst
    by_cases hm : m = 0
    · subst hm
      have q0 : q = 0 := by rw [hq]; simp
      have s0 : st = 0 := by rw [hst]; simp
      refine ⟨i + lp k, j + more + 1, by omega, ?_⟩
      rw [q0, s0]; simp
    have hm1 : 2 ^ m.log2 ≤ m := Nat.log2_self_le hm
    -- the dividend is great: so the exponents fall
    have hD : n < m * 2 ^ more := by
      have h1 : n.log2 + 1 ≤ m.log2 + more := by omega
      calc n < 2 ^ (n.log2 + 1) := hn2
        _ ≤ 2 ^ (m.log2 + more) := pow_le_of h1
        _ = 2 ^ m.log2 * 2 ^ more := Nat.pow_add _ _ _
        _ ≤ m * 2 ^ more := Nat.mul_le_mul_right _ hm1
    -- m * 2 ^ more * 2 ^ i ≤ n * 2 ^ j * 2 ^ more, so j + more > i
    have hs : i < j + more := by
      rcases Nat.lt_or_ge i (j + more) with h | h
      · exact h
      · exfalso
        have h1 : n * 2 ^ (j + more) < m * 2 ^ more * 2 ^ i := by
          calc n * 2 ^ (j + more) < m * 2 ^ more * 2 ^ (j + more) := Nat.mul_lt_mul_of_pos_right hD (Nat.two_pow_pos _)
            _ ≤ m * 2 ^ more * 2 ^ i := Nat.mul_le_mul_left _ (pow_le_of h)
        have h2 : m * 2 ^ more * 2 ^ i ≤ n * 2 ^ (j + more) := by
          have := Nat.mul_le_mul_right (2 ^ more) hv
          rw [Nat.pow_add]
          calc m * 2 ^ more * 2 ^ i = m * 2 ^ i * 2 ^ more := by ac_rfl
            _ ≤ n * 2 ^ j * 2 ^ more := this
            _ = n * (2 ^ j * 2 ^ more) := by ac_rfl
        omega
    obtain ⟨S, hS⟩ : ∃ S, j + more = i + S := ⟨j + more - i, by omega⟩
    have hle : m * 2 ^ more ≤ n * 2 ^ S := by
      have h2 : m * 2 ^ more * 2 ^ i ≤ n * 2 ^ S * 2 ^ i := by
        have := Nat.mul_le_mul_right (2 ^ more) hv
        calc m * 2 ^ more * 2 ^ i = m * 2 ^ i * 2 ^ more := by ac_rfl
          _ ≤ n * 2 ^ j * 2 ^ more := this
          _ = n * 2 ^ (j + more) := by rw [Nat.pow_add]; ac_rfl
          _ = n * 2 ^ (i + S) := by rw [hS]
          _ = n * 2 ^ S * 2 ^ i := by rw [Nat.pow_add]; ac_rfl
      exact Nat.le_of_mul_le_mul_right h2 (Nat.two_pow_pos _)
    have hfin : 2 * q + st ≤ 2 ^ (S + 1) := by
      have hdm := Nat.div_add_mod (m * 2 ^ more) n
      rw [← hq] at hdm
      rw [Nat.pow_succ]
      by_cases hr : m * 2 ^ more % n = 0
      · have s0 : st = 0 := by rw [hst, hr]; rfl
        rw [hr] at hdm
        have : n * q ≤ n * 2 ^ S := by omega
        have := Nat.le_of_mul_le_mul_left this (by omega)
        omega
      · have s1 : st ≤ 1 := by rw [hst]; exact Bool.toNat_le _
        have : n * q < n * 2 ^ S := by omega
        have := Nat.lt_of_mul_lt_mul_left this
        omega
    refine ⟨lp k, S + 1, by omega, ?_⟩
    rw [Nat.mul_comm (2 ^ lp k)]
    exact Nat.mul_le_mul_right _ hfin
  obtain ⟨a, b, k1, k2⟩ := key _ _ rfl rfl
  rw [Nat.shiftLeft_eq] at hz
  obtain ⟨g1, g2⟩ := write_le k (sg k x ^^ sg k y) _ (-((lp k : Nat) : Int) + (i : Int) - (-((lp k : Nat) : Int) + (j : Int)) - more - 1) (oneW k) a b (Nat.le_of_lt (one_lt k)) (by omega) (by rw [mag_one]; exact k2)
  exact ⟨_, hz, g1, g2⟩

theorem sg_zero (k : FloatKind) : sg k (oneW k) = false := by cases k <;> decide
theorem rg_one (k : FloatKind) : rgF k (oneW k) = oneW k := by cases k <;> decide
theorem U_one (k : FloatKind) : U k (oneW k) := Nat.le_of_eq (rg_one k)

/-- 1 less a number between 0 and 1. -/
theorem sub_U {k : FloatKind} {y : Nat} (hy : U k y) (hs : sg k y = true) : ∃ z, floatBits .add k (oneW k) y = some z ∧ U k z ∧ sg k z = false := by
  obtain ⟨m, i, fx⟩ := fin_of (U_one k).lt
  obtain ⟨n, j, fy⟩ := fin_of hy.lt
  have h1 : m * 2 ^ i = 2 ^ lp k := by rw [fx.val, rg_one, mag_one]
  have h2 := hy.mag fy
  rw [← h1] at h2
  have e0 : min (-((lp k : Nat) : Int) + (i : Int)) (-((lp k : Nat) : Int) + (j : Int)) = -((lp k : Nat) : Int) + ((min i j : Nat) : Int) := by omega
  have e1 : (-((lp k : Nat) : Int) + (i : Int) - min (-((lp k : Nat) : Int) + (i : Int)) (-((lp k : Nat) : Int) + (j : Int))).toNat = i - min i j := by omega
  have e2 : (-((lp k : Nat) : Int) + (j : Int) - min (-((lp k : Nat) : Int) + (i : Int)) (-((lp k : Nat) : Int) + (j : Int))).toNat = j - min i j := by omega
  have hsum : ∃ t : Nat, (m <<< (i - min i j) : Nat) = t + (n <<< (j - min i j) : Nat) := by
    refine ⟨m <<< (i - min i j) - n <<< (j - min i j), ?_⟩
    have : n <<< (j - min i j) ≤ m <<< (i - min i j) := by
      rw [Nat.shiftLeft_eq, Nat.shiftLeft_eq]
      refine Nat.le_of_mul_le_mul_right (c := 2 ^ min i j) ?_ (Nat.two_pow_pos _)
      rw [Nat.mul_assoc, Nat.mul_assoc, ← Nat.pow_add, ← Nat.pow_add, Nat.sub_add_cancel (Nat.min_le_left _ _), Nat.sub_add_cancel (Nat.min_le_right _ _)]
      exact h2
    omega
  obtain ⟨t, ht⟩ := hsum
  have hz : floatBits .add k (oneW k) y = some (k.format.write (.number false t (min (-((lp k : Nat) : Int) + (i : Int)) (-((lp k : Nat) : Int) + (j : Int))))) := by
    show k.format.add (oneW k) y = _
    unfold Format.add
    rw [fx.read, fy.read, hs, sg_zero]
    simp only [Datum.sum, e1, e2, signed, Bool.false_eq_true, if_false, if_true, Option.map_some, ht]
    have e3 : ((t + n <<< (j - min i j) : Nat) : Int) + -((n <<< (j - min i j) : Nat) : Int) = (t : Int) := by omega
    rw [e3]
    have e4 : (if (t : Int) = 0 then false && true else decide ((t : Int) < 0)) = false := by split <;> simp
    rw [e4]
    simp
  have hb : t * 2 ^ (min i j) ≤ 2 ^ lp k := by
    have h3 : t ≤ m <<< (i - min i j) := by rw [ht]; exact Nat.le_add_right _ _
    rw [Nat.shiftLeft_eq] at h3
    calc t * 2 ^ (min i j) ≤ m * 2 ^ (i - min i j) * 2 ^ (min i j) := Nat.mul_le_mul_right _ h3
      _ = m * 2 ^ i := by rw [Nat.mul_assoc, ← Nat.pow_add, Nat.sub_add_cancel (Nat.min_le_left _ _)]
      _ = 2 ^ lp k := h1
  obtain ⟨g1, g2⟩ := write_le k false t (min (-((lp k : Nat) : Int) + (i : Int)) (-((lp k : Nat) : Int) + (j : Int))) (oneW k) (min i j) 0 (Nat.le_of_lt (one_lt k)) (by rw [e0]; omega) (by rw [mag_one]; simpa using hb)
  exact ⟨_, hz, g1, g2⟩

/-- Narrowed. -/
theorem narrow_U {w : Nat} (h : U .f64 w) : ∃ z, cvC .f64 .f32 (some w) = some (some z) ∧ U .f32 z ∧ sg .f32 z = sg .f64 w := by
  obtain ⟨m, i, fx⟩ := fin_of h.lt
  have h1 := h.mag fx
  obtain ⟨d, hd⟩ : ∃ d : Nat, lp .f64 = lp .f32 + d := ⟨925, rfl⟩
  have g := write_le .f32 (sg .f64 w) m (-((lp .f64 : Nat) : Int) + (i : Int)) (oneW .f32) i d (Nat.le_of_lt (one_lt .f32)) (by omega) (by
    rw [mag_one, ← Nat.pow_add, ← hd]; exact h1)
  refine ⟨FloatKind.f32.encode (.number (sg .f64 w) m (-((lp .f64 : Nat) : Int) + (i : Int))), ?_, g.1, g.2⟩
  unfold cvC
  rw [if_neg (by decide)]
  have hd : FloatKind.f64.decode w = .number (sg .f64 w) m (-((lp .f64 : Nat) : Int) + (i : Int)) := fx.read
  simp only [hd]
  obtain ⟨m', e', hf⟩ := fin_of (k := .f32) (w := FloatKind.f32.encode (.number (sg .f64 w) m (-((lp .f64 : Nat) : Int) + (i : Int)))) (Nat.lt_of_le_of_lt g.1 (one_lt .f32))
  have hd2 : FloatKind.f32.decode (FloatKind.f32.encode (.number (sg .f64 w) m (-((lp .f64 : Nat) : Int) + (i : Int)))) = _ := hf.read
  rw [hd2]
  rfl
end Go.Proofs.Ytonlgkecphijoaa
