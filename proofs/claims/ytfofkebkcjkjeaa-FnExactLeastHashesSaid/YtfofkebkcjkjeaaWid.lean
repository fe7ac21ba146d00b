/- Plain facts on floats: widening a 32-bit number is exact. -/
import Derived.Test.YtfofkebkcjkjeaaFl
namespace Go.Proofs.Ytfofkebkcjkjeaa
open Ieee
set_option linter.unusedSimpArgs false
set_option linter.unusedVariables false

theorem read_single (b : Nat) (h : finB .f32 b = true) : ∃ (m e : Nat), Ieee.single.read b = .number (b / 2147483648 % 2 == 1) m (-149 + (e : Int)) ∧ m < 16777216 ∧ e ≤ 253 ∧ (e = 0 ∨ 8388608 ≤ m) := by
  have e1 : Ieee.single.signWeight = 2147483648 := rfl
  have e2 : Ieee.single.infRung = 2139095040 := rfl
  have e3 : Ieee.single.binade = 8388608 := rfl
  have e4 : Ieee.single.leastPlace = -149 := rfl
  unfold finB at h
  simp only [FloatKind.format, e1, e2, decide_eq_true_eq] at h
  unfold Format.read
  simp only [e1, e2, e3, e4]
  by_cases h1 : b % 2147483648 < 8388608
  · rw [if_pos h1]
    exact ⟨b % 2147483648, 0, by simp, by omega, by omega, by omega⟩
  · rw [if_neg h1, if_pos h]
    exact ⟨_, _, rfl, by omega, by omega, by omega⟩

theorem cut_zero (neg : Bool) (n : Nat) : Toward.even.cut neg n 0 = n := by
  unfold Toward.cut
  simp [Nat.mod_one]

/-- The word of 64 bits of a 32-bit number that is not zero. -/
theorem nearest64 (s : Bool) (m e : Nat) (hm0 : m ≠ 0) (hm : m < 16777216) (he : e ≤ 253) :
    Ieee.double.nearest s m (-149 + (e : Int)) = Ieee.double.word s ((e + m.log2 + 873) * 4503599627370496 + m * 2 ^ (52 - m.log2)) ∧ (e + m.log2 + 873) * 4503599627370496 + m * 2 ^ (52 - m.log2) < 9218868437227405312 := by
  have hl : m.log2 ≤ 23 := by
    have := (Nat.log2_lt hm0 (k := 24)).2 (by omega)
    omega
  have e2 : Ieee.double.infRung = 9218868437227405312 := rfl
  have e3 : Ieee.double.binade = 4503599627370496 := rfl
  have e4 : Ieee.double.leastPlace = -1074 := rfl
  have e5 : Ieee.double.fractionBits = 52 := rfl
  have hk : m * 2 ^ (52 - m.log2) < 9007199254740992 := by
    have h1 : m < 2 ^ (m.log2 + 1) := Nat.lt_log2_self
    have h2 : m * 2 ^ (52 - m.log2) < 2 ^ (m.log2 + 1) * 2 ^ (52 - m.log2) := Nat.mul_lt_mul_of_pos_right h1 (Nat.two_pow_pos _)
    rw [← Nat.pow_add] at h2
    have h3 : m.log2 + 1 + (52 - m.log2) = 53 := by omega
    rw [h3] at h2
    exact h2
  have hb : (e + m.log2 + 873) * 4503599627370496 + m * 2 ^ (52 - m.log2) < 9218868437227405312 := by omega
  refine ⟨?_, hb⟩
  unfold Format.nearest
  rw [if_neg hm0]
  simp only [e2, e3, e4, e5]
  have hlast : max (-149 + (e : Int) + (m.log2 : Int) - ((52 : Nat) : Int)) (-1074) = -149 + (e : Int) + (m.log2 : Int) - 52 := by omega
  rw [hlast]
  have t1 : (-149 + (e : Int) - (-149 + (e : Int) + (m.log2 : Int) - 52)).toNat = 52 - m.log2 := by omega
  have t2 : (-149 + (e : Int) + (m.log2 : Int) - 52 - (-149 + (e : Int))).toNat = 0 := by omega
  have t3 : (-149 + (e : Int) + (m.log2 : Int) - 52 - -1074).toNat = e + m.log2 + 873 := by omega
  rw [t1, t2, t3, cut_zero, Nat.shiftLeft_eq, Nat.min_eq_left (by omega)]

theorem sign_word (f : Format) (s : Bool) (r : Nat) (h : r < f.signWeight) : (f.word s r / f.signWeight % 2 == 1) = s := by
  unfold Format.word
  cases s
  · simp [Nat.div_eq_of_lt h]
  · have : (f.signWeight + r) / f.signWeight = 1 := by
      have hs : 0 < f.signWeight := Nat.two_pow_pos _
      rw [Nat.add_div_left _ hs, Nat.div_eq_of_lt h]
    simp [this]

theorem widen_inf (b : Nat) (h : finB .f32 b = true) : ∀ g m e, Ieee.single.read b = .number g m e → (Ieee.double.read (Ieee.double.write (.number g m e))).isInfinity = false := by
  intro g m e hr
  obtain ⟨m', e', hr', hm, he, _⟩ := read_single b h
  rw [← hr, hr']
  have e1 : Ieee.double.signWeight = 9223372036854775808 := rfl
  have e2 : Ieee.double.infRung = 9218868437227405312 := rfl
  show (Ieee.double.read (Ieee.double.nearest _ m' (-149 + (e' : Int)))).isInfinity = false
  have key : ∀ r : Nat, r < Ieee.double.infRung → (Ieee.double.read (Ieee.double.word (b / 2147483648 % 2 == 1) r)).isInfinity = false := by
    intro r hr
    have hlt : r < Ieee.double.signWeight := Nat.lt_trans hr Ieee.double.infRung_lt
    unfold Format.read
    simp only [word_mod _ _ _ hlt]
    split
    · rfl
    · rfl
  by_cases h0 : m' = 0
  · subst h0
    have : Ieee.double.nearest (b / 2147483648 % 2 == 1) 0 (-149 + (e' : Int)) = Ieee.double.word (b / 2147483648 % 2 == 1) 0 := by unfold Format.nearest; simp
    rw [this]
    exact key 0 (by rw [e2]; omega)
  · obtain ⟨h1, h2⟩ := nearest64 (b / 2147483648 % 2 == 1) m' e' h0 hm he
    rw [h1]
    exact key _ (by rw [e2]; exact h2)

/-- Widening a 32-bit number, up to NaN. -/
def wide (b : Nat) : Nat := Ieee.double.write (Ieee.single.read b)

theorem isNum_fin (k : FloatKind) (b : Nat) (h : isNum k b = true) : finB k b = true ∨ ∃ s, k.format.read b = .infinity s := by
  rcases read_num k b h with ⟨h1, _⟩ | ⟨_, h1⟩
  · exact Or.inl (by simp [finB, h1])
  · exact Or.inr ⟨_, h1⟩

theorem fcv_num (b : Nat) (w : World) (g : Bool) (m : Nat) (e : Int) (hr : FloatKind.f32.decode b = .number g m e) (hi : (FloatKind.f64.decode (FloatKind.f64.encode (.number g m e))).isInfinity = false) :
    fcv .f32 .f64 b w = FloatKind.f64.encode (.number g m e) ∧ fcd .f32 .f64 b = 0 := by
  unfold fcv fcd
  rw [if_neg (by decide), if_neg (by decide), hr]
  simp only [hi, Bool.false_eq_true, if_false]
  exact ⟨trivial, trivial⟩

theorem fcv_inf (b : Nat) (w : World) (g : Bool) (hr : FloatKind.f32.decode b = .infinity g) : fcv .f32 .f64 b w = FloatKind.f64.encode (.infinity g) ∧ fcd .f32 .f64 b = 0 := by
  unfold fcv fcd
  rw [if_neg (by decide), if_neg (by decide), hr]
  exact ⟨rfl, rfl⟩

theorem wide_eq (b : Nat) : wide b = FloatKind.f64.encode (FloatKind.f32.decode b) := by
  unfold wide FloatKind.encode FloatKind.decode FloatKind.format; rfl

theorem fcv_wide (b : Nat) (w : World) (h : isNum .f32 b = true) : fcv .f32 .f64 b w = wide b ∧ fcd .f32 .f64 b = 0 ∧ isNum .f64 (wide b) = true := by
  have hn : isNum .f64 (wide b) = true := by
    refine write_num .f64 _ ?_
    unfold isNum at h
    have h' : (!(Ieee.single.read b).isNaN) = true := h
    simpa using h'
  rcases isNum_fin .f32 b h with hf | ⟨s, hr⟩
  · obtain ⟨m, e, hr, _⟩ := read_single b hf
    have hi := widen_inf b hf _ _ _ hr
    obtain ⟨h1, h2⟩ := fcv_num b w _ _ _ hr hi
    have hd : FloatKind.f32.decode b = .number (b / 2147483648 % 2 == 1) m (-149 + (e : Int)) := hr
    exact ⟨by rw [h1, wide_eq, hd], h2, hn⟩
  · have hd : FloatKind.f32.decode b = .infinity s := hr
    obtain ⟨h1, h2⟩ := fcv_inf b w s hd
    exact ⟨by rw [h1, wide_eq, hd], h2, hn⟩

theorem can_fcv_wide (b : Nat) (w : World) : can .f64 (fcv .f32 .f64 b w) = (can .f32 b).map wide := by
  by_cases h : isNum .f32 b = true
  · obtain ⟨h1, h2, h3⟩ := fcv_wide b w h
    rw [h1, can_num h3, can_num h]; rfl
  · have h' : isNum .f32 b = false := by simpa using h
    rw [can_nan h']
    unfold isNum at h'
    have : ∃ s f, Ieee.single.read b = .nan s f := by
      cases hr : Ieee.single.read b <;> simp [FloatKind.format, hr, Datum.isNaN] at h'
      exact ⟨_, _, rfl⟩
    obtain ⟨s, f, hr⟩ := this
    unfold fcv
    have hd : FloatKind.f32.decode b = .nan s f := hr
    rw [if_neg (by decide), hd]
    refine can_nan ?_
    obtain ⟨s', f', hn⟩ := read_nan64 (w.tape w.drawn (.nanConv .f64 b))
    unfold isNum
    show (!(Ieee.double.read _).isNaN) = false
    show (!(Ieee.double.read ((w.tape w.drawn (.nanConv .f64 b)) % 2 * 2 ^ 63 + 0x7ff0000000000000 + 1 + (w.tape w.drawn (.nanConv .f64 b)) / 2 % (2 ^ 52 - 1))).isNaN) = false
    rw [hn]; rfl

theorem wide_sign (b : Nat) (h : isNum .f32 b = true) (hb : b < 4294967296) : (9223372036854775808 ≤ wide b) ↔ 2147483648 ≤ b := by
  have hw : wide b < 18446744073709551616 := Ieee.double.write_lt _
  have hs : (wide b / Ieee.double.signWeight % 2 == 1) = (b / 2147483648 % 2 == 1) := by
    unfold wide
    rcases isNum_fin .f32 b h with hf | ⟨s, hr⟩
    · obtain ⟨m, e, hr, hm, he, _⟩ := read_single b hf
      rw [hr]
      show (Ieee.double.nearest _ m _ / _ % 2 == 1) = _
      by_cases h0 : m = 0
      · subst h0
        have : Ieee.double.nearest (b / 2147483648 % 2 == 1) 0 (-149 + (e : Int)) = Ieee.double.word (b / 2147483648 % 2 == 1) 0 := by unfold Format.nearest; simp
        rw [this]
        exact sign_word _ _ _ (Nat.two_pow_pos _)
      · obtain ⟨h1, h2⟩ := nearest64 (b / 2147483648 % 2 == 1) m e h0 hm he
        rw [h1]
        exact sign_word _ _ _ (Nat.lt_trans h2 Ieee.double.infRung_lt)
    · have hr2 : Ieee.single.read b = .infinity s := hr
      have : Ieee.single.read b = .infinity (b / 2147483648 % 2 == 1) := by
        rcases read_num .f32 b h with ⟨_, m, e, h1, _⟩ | ⟨_, h1⟩
        · have h1' : Ieee.single.read b = _ := h1
          rw [h1'] at hr2; cases hr2
        · exact h1
      rw [this]
      exact sign_word _ _ _ Ieee.double.infRung_lt
  have e1 : Ieee.double.signWeight = 9223372036854775808 := rfl
  rw [e1] at hs
  have : (wide b / 9223372036854775808 % 2 = 1) ↔ (b / 2147483648 % 2 = 1) := by
    have := congrArg (· = true) hs
    simpa using this
  omega

end Go.Proofs.Ytfofkebkcjkjeaa
