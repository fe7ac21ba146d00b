/- Two numbers are the same: by their bits, and as the program tells it. -/
import Derived.Test.YtcjpfifajbjalaaZp
namespace Go.Proofs.Ytcjpfifajbjalaa
open Go.RowKit
set_option linter.unusedSimpArgs false
set_option linter.unusedVariables false

def sameN (a b : Nat) : Bool := decide (can .f32 a = can .f32 b)

theorem order_self (k : FloatKind) (b : Nat) (h : isNum k b = true) : k.format.order b b = some .eq := by rw [order_key k b b h h, cmp_eq rfl]

def bitsC (b : Nat) : Int := if isNum .f32 b then (b : Int) else 2143289344
theorem l01Bits_any (b : Nat) (hb : b < 4294967296) (w : World) : Calls Try.prog 216 #[.float .f32 b] w fun e w' => e = .returned (.int .i64 (bitsC b)) ∧ w' = w := by
  unfold bitsC
  cases hn : isNum .f32 b
  · have ho := order_nan .f32 b b (Or.inl hn)
    go_enter Try.func216, Try.ntmps216
    go_wp2
    go_ret
    exact ⟨rfl, rfl⟩
  · have ho := order_self .f32 b hn
    go_enter Try.func216, Try.ntmps216
    go_wp2
    go_ret
    exact ⟨rfl, rfl⟩

theorem bitsC_eq (a b : Nat) (ha : a < 4294967296) (hb : b < 4294967296) : (bitsC a == bitsC b) = sameN a b := by
  unfold bitsC sameN can
  have hq : isNum .f32 2143289344 = false := by decide
  cases h1 : isNum .f32 a <;> cases h2 : isNum .f32 b <;> simp
  rotate_right 1
  · rw [Bool.eq_iff_iff]; simp; exact Int.ofNat_inj
  · intro h; have : b = 2143289344 := by omega
    rw [this, hq] at h2; cases h2
  · intro h; have : a = 2143289344 := by omega
    rw [this, hq] at h1; cases h1

theorem l01Same_any (a b : Nat) (ha : a < 4294967296) (hb : b < 4294967296) (w : World) : Calls Try.prog 133 #[.float .f32 a, .float .f32 b] w fun e w' => e = .returned (.bool (sameN a b)) ∧ w' = w := by
  have H := bitsC_eq a b ha hb
  go_enter Try.func133, Try.ntmps133
  go_wp2_with fail
  refine (l01Bits_any a ha _).mono ?_
  rintro e w' ⟨rfl, rfl⟩
  go_wp2_with fail
  refine (l01Bits_any b hb _).mono ?_
  rintro e w' ⟨rfl, rfl⟩
  go_wp2
  go_ret
  exact ⟨rfl, rfl⟩



end Go.Proofs.Ytcjpfifajbjalaa
