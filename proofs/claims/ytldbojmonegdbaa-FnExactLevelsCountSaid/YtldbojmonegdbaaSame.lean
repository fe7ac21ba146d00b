/- Two numbers are the same: by their bits, and as the program tells it. -/
import Derived.Test.YtldbojmonegdbaaWid
namespace Go.Proofs.Ytldbojmonegdbaa
open Go.RowKit
set_option linter.unusedSimpArgs false
set_option linter.unusedVariables false

def sameN (a b : Nat) : Bool := decide (can .f32 a = can .f32 b)

theorem order_self (k : FloatKind) (b : Nat) (h : isNum k b = true) : k.format.order b b = some .eq := by rw [order_key k b b h h, cmp_eq rfl]

def bitsC (b : Nat) : Int := if isNum .f32 b then (b : Int) else 2143289344
theorem l01Bits_any (b : Nat) (hb : b < 4294967296) (w : World) : Calls Try.prog 144 #[.float .f32 b] w fun e w' => e = .returned (.int .i64 (bitsC b)) ∧ w' = w := by
  unfold bitsC
  cases hn : isNum .f32 b
  · have ho := order_nan .f32 b b (Or.inl hn)
    go_enter Try.func144, Try.ntmps144
    go_wp2
    go_ret
    exact ⟨rfl, rfl⟩
  · have ho := order_self .f32 b hn
    go_enter Try.func144, Try.ntmps144
    go_wp2
    go_ret
    exact ⟨rfl, rfl⟩

theorem bitsC_eq (a b : Nat) (ha : a < 4294967296) (hb : b < 4294967296) : (bitsC a == bitsC b) = sameN a b := by
  unfold bitsC sameN can
  have hq : isNum .f32 2143289344 = false := by decide
  cases h1 : isNum .f32 a <;> cases h2 : isNum .f32 b <;> simp
  rotate_right 1
  · rw [Bool.eq_iff_iff]; simp; exact Int.ofNat_inj
  · intro h; have : b = 2143289344 := by omega
    rw [this, hq] at h2; cases h2
  · intro h; have : a = 2143289344 := by omega
    rw [this, hq] at h1; cases h1

theorem l01Same_any (a b : Nat) (ha : a < 4294967296) (hb : b < 4294967296) (w : World) : Calls Try.prog 135 #[.float .f32 a, .float .f32 b] w fun e w' => e = .returned (.bool (sameN a b)) ∧ w' = w := by
  have H := bitsC_eq a b ha hb
  go_enter Try.func135, Try.ntmps135
  go_wp2_with fail
  refine (l01Bits_any a ha _).mono ?_
  rintro e w' ⟨rfl, rfl⟩
  go_wp2_with fail
  refine (l01Bits_any b hb _).mono ?_
  rintro e w' ⟨rfl, rfl⟩
  go_wp2
  go_ret
  exact ⟨rfl, rfl⟩
def lt64 (b : Nat) : Prop := b < 18446744073709551616
theorem wide_lt64 (b : Nat) : lt64 (wide b) := Ieee.double.write_lt _
def neg64 (b : Nat) : Bool := decide (9223372036854775808 ≤ b)

theorem Signbit_any (b : Nat) (hb : lt64 b) (w : World) : Calls Try.prog 136 #[.float .f64 b] w fun e w' => e = .returned (.bool (neg64 b)) ∧ w' = w := by
  unfold neg64
  unfold lt64 at hb
  go_enter Try.func136, Try.ntmps136
  go_wp2
  go_ret
  refine ⟨?_, rfl⟩
  have : (wrap64 (b : Int) < 0) ↔ 9223372036854775808 ≤ b := by
    simp only [wrap64, IntKind.wrap]; omega
  simp only [this]
  rfl

theorem sameN_num (a b : Nat) (ha : a < 4294967296) (hb : b < 4294967296) (h1 : isNum .f32 a = true) (h2 : isNum .f32 b = true) :
    sameN a b = ((compare (key Ieee.single a) (key Ieee.single b) == .eq) && (neg64 (wide a) == neg64 (wide b))) := by
  unfold sameN neg64
  rw [can_num h1, can_num h2, Bool.eq_iff_iff]
  simp only [Option.some.injEq, decide_eq_true_eq, Bool.and_eq_true, beq_iff_eq, wide_sign a h1 ha, wide_sign b h2 hb]
  constructor
  · rintro rfl
    exact ⟨cmp_eq rfl, rfl⟩
  · rintro ⟨h3, h4⟩
    have h5 : key Ieee.single a = key Ieee.single b := by
      rcases Int.lt_trichotomy (key Ieee.single a) (key Ieee.single b) with h | h | h
      · rw [cmp_lt h] at h3; cases h3
      · exact h
      · rw [cmp_gt h] at h3; cases h3
    refine key_inj .f32 a b (by show a < 2 * 2147483648; omega) (by show b < 2 * 2147483648; omega) h5 ?_
    show a / 2147483648 = b / 2147483648
    have : (2147483648 ≤ a ↔ 2147483648 ≤ b) := by simpa using h4
    omega

theorem SameNumber_any (a b : Nat) (ha : a < 4294967296) (hb : b < 4294967296) (w : World) : Calls Try.prog 113 #[.float .f32 a, .float .f32 b] w fun e w' => e = .returned (.bool (sameN a b)) ∧ w' = w := by
  cases h1 : isNum .f32 a <;> cases h2 : isNum .f32 b
  · have o1 := order_nan .f32 a a (Or.inl h1)
    have o2 := order_nan .f32 b b (Or.inl h2)
    go_enter Try.func113, Try.ntmps113
    go_wp2
    go_ret
    exact ⟨by simp [sameN, can_nan h1, can_nan h2], rfl⟩
  · have o1 := order_nan .f32 a a (Or.inl h1)
    have o2 := order_self .f32 b h2
    go_enter Try.func113, Try.ntmps113
    go_wp2
    go_ret
    exact ⟨by simp [sameN, can_nan h1, can_num h2], rfl⟩
  · have o1 := order_self .f32 a h1
    have o2 := order_nan .f32 b b (Or.inl h2)
    go_enter Try.func113, Try.ntmps113
    go_wp2
    go_ret
    exact ⟨by simp [sameN, can_num h1, can_nan h2], rfl⟩
  · have o1 := order_self .f32 a h1
    have o2 := order_self .f32 b h2
    have o3 := order_key .f32 a b h1 h2
    have hs := sameN_num a b ha hb h1 h2
    have Hs := Lib.hid hs
    clear hs
    have hwa := wide_lt64 a
    have hwb := wide_lt64 b
    have c1 : ∀ w, fcv .f32 .f64 a w = wide a := fun w => (fcv_wide a w h1).1
    have c2 : ∀ w, fcv .f32 .f64 b w = wide b := fun w => (fcv_wide b w h2).1
    have d1 : fcd .f32 .f64 a = 0 := (fcv_wide a w h1).2.1
    have d2 : fcd .f32 .f64 b = 0 := (fcv_wide b w h2).2.1
    have n0 : ∀ w : World, w.drewN 0 = w := fun w => rfl
    cases h3 : compare (key Ieee.single a) (key Ieee.single b)
    all_goals
      have o4 : FloatKind.f32.format.order a b = some _ := o3.trans (congrArg some h3)
      have H3 := Lib.hid h3
      clear h3 o3
      go_enter Try.func113, Try.ntmps113
      go_wp2_with (first | (go_at_call 136; (with_reducible refine (Signbit_any _ hwa _).mono ?_); rintro e w' ⟨rfl, hsame⟩; obtain rfl := hsame.symm) | (go_at_call 136; (with_reducible refine (Signbit_any _ hwb _).mono ?_); rintro e w' ⟨rfl, hsame⟩; obtain rfl := hsame.symm))
      go_ret
      refine ⟨?_, rfl⟩
      rw [Hs.out, H3.out]
      rfl
end Go.Proofs.Ytldbojmonegdbaa
