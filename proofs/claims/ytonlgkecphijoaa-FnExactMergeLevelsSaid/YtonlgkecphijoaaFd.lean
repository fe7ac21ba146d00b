/- The exponential function of a number that is not above 0. -/
import Derived.Test.YtonlgkecphijoaaFc
import Derived.Test.YtonlgkecphijoaaZn
import Derived.Test.YtonlgkecphijoaaZp
namespace Go.Proofs.Ytonlgkecphijoaa
open Ieee
set_option linter.unusedSimpArgs false
set_option linter.unusedVariables false
set_option maxRecDepth 100000

theorem read_inf {k : FloatKind} {w : Nat} (h : rgF k w = k.format.infRung) : k.format.read w = .infinity (sg k w) := by
  have hn : isNum k w = true := (isNum_iff k w).2 (Nat.le_of_eq h)
  rcases read_num k w hn with ⟨h1, _⟩ | ⟨_, h2⟩
  · unfold rgF at h; omega
  · rw [h2]; rfl
theorem sg_write (k : FloatKind) (s : Bool) (m : Nat) (p : Int) : sg k (k.format.write (.number s m p)) = s := by
  have e : k.format.write (.number s m p) = k.format.word s (rungOf k.format m p) := nearest_rung _ _ _ _
  have h2 := inf_lt k
  have h3 : rungOf k.format m p ≤ k.format.infRung := by
    unfold rungOf
    split
    · exact Nat.zero_le _
    · exact Nat.min_le_right _ _
  rw [e, sg_word _ _ _ (by omega)]
theorem sg_write_inf (k : FloatKind) (s : Bool) : sg k (k.format.write (.infinity s)) = s := sg_word _ _ _ (inf_lt k)
theorem rg_write_inf (k : FloatKind) (s : Bool) : rgF k (k.format.write (.infinity s)) = k.format.infRung := rg_word _ _ _ (inf_lt k)
theorem mul_sg {k : FloatKind} {x y : Nat} (hx : rgF k x < k.format.infRung) (hy : rgF k y < k.format.infRung) : ∃ z, floatBits .mul k x y = some z ∧ isNum k z = true ∧ sg k z = (sg k x ^^ sg k y) := by
  obtain ⟨m, i, fx⟩ := fin_of hx
  obtain ⟨n, j, fy⟩ := fin_of hy
  have hz : floatBits .mul k x y = some (k.format.write (.number (sg k x ^^ sg k y) (m * n) (-((lp k : Nat) : Int) + (i : Int) + (-((lp k : Nat) : Int) + (j : Int))))) := by
    show k.format.mul x y = _
    unfold Format.mul
    rw [fx.read, fy.read]; rfl
  exact ⟨_, hz, floatBits_num hz, sg_write _ _ _ _⟩
theorem div_sg {k : FloatKind} {x y : Nat} (hx : isNum k x = true) (hy : rgF k y < k.format.infRung) (h0 : 0 < rgF k y) : ∃ z, floatBits .quo k x y = some z ∧ isNum k z = true ∧ sg k z = (sg k x ^^ sg k y) := by
  obtain ⟨n, j, fy⟩ := fin_of hy
  have hn : n ≠ 0 := by
    intro h; subst h
    have := mag_mono k.format h0
    rw [← fy.val] at this; simp at this
  have hx' : rgF k x ≤ k.format.infRung := (isNum_iff k x).1 hx
  rcases Nat.lt_or_ge (rgF k x) k.format.infRung with hlt | hge
  · obtain ⟨m, i, fx⟩ := fin_of hlt
    have hz : floatBits .quo k x y = some (k.format.write (.number (sg k x ^^ sg k y) (2 * (m <<< (k.format.fractionBits + 2 + n.log2 - m.log2) / n) + (m <<< (k.format.fractionBits + 2 + n.log2 - m.log2) % n != 0).toNat) (-((lp k : Nat) : Int) + (i : Int) - (-((lp k : Nat) : Int) + (j : Int)) - (k.format.fractionBits + 2 + n.log2 - m.log2 : Nat) - 1))) := by
      show k.format.div x y = _
      unfold Format.div
      rw [fx.read, fy.read]
      simp only [Datum.quotient, if_neg hn, Option.map_some]
    exact ⟨_, hz, floatBits_num hz, sg_write _ _ _ _⟩
  · have hr := read_inf (k := k) (w := x) (by omega)
    have hz : floatBits .quo k x y = some (k.format.write (.infinity (sg k x ^^ sg k y))) := by
      show k.format.div x y = _
      unfold Format.div
      rw [hr, fy.read]; rfl
    exact ⟨_, hz, floatBits_num hz, sg_write_inf _ _⟩

/-! Widened numbers. -/
def dW : Nat := 925
theorem dW_eq : (dW : Nat) = 925 := rfl
theorem wide_le {w : Nat} (h : rgF .f32 w < FloatKind.f32.format.infRung) (r r64 : Nat) (hr : rgF .f32 w ≤ r) (hr64 : r64 ≤ FloatKind.f64.format.infRung) (hm : mag FloatKind.f64.format r64 = mag FloatKind.f32.format r * 2 ^ dW) : rgF .f64 (wide w) ≤ r64 ∧ sg .f64 (wide w) = sg .f32 w := by
  obtain ⟨m, e, f⟩ := fin_of h
  have hw : wide w = FloatKind.f64.format.write (.number (sg .f32 w) m (-((lp .f32 : Nat) : Int) + (e : Int))) := by
    unfold wide
    have := f.read
    have e1 : Ieee.single.read w = _ := this
    rw [e1]; rfl
  rw [hw]
  refine write_le .f64 (sg .f32 w) m (-((lp .f32 : Nat) : Int) + (e : Int)) r64 (e + dW) 0 hr64 (by have := dW_eq; simp only [lp]; omega) ?_
  rw [hm, Nat.pow_add, ← Nat.mul_assoc, f.val, Nat.pow_zero, Nat.mul_one]
  exact Nat.mul_le_mul_right _ (mag_le _ hr)
theorem le_wide {w : Nat} (h : rgF .f32 w < FloatKind.f32.format.infRung) (r r64 : Nat) (hr : r ≤ rgF .f32 w) (hr64 : r64 ≤ FloatKind.f64.format.infRung) (hm : mag FloatKind.f64.format r64 = mag FloatKind.f32.format r * 2 ^ dW) : r64 ≤ rgF .f64 (wide w) := by
  obtain ⟨m, e, f⟩ := fin_of h
  have hw : wide w = FloatKind.f64.format.write (.number (sg .f32 w) m (-((lp .f32 : Nat) : Int) + (e : Int))) := by
    unfold wide
    have := f.read
    have e1 : Ieee.single.read w = _ := this
    rw [e1]; rfl
  have e2 : FloatKind.f64.format.write (.number (sg .f32 w) m (-((lp .f32 : Nat) : Int) + (e : Int))) = FloatKind.f64.format.word (sg .f32 w) (rungOf FloatKind.f64.format m (-((lp .f32 : Nat) : Int) + (e : Int))) := nearest_rung _ _ _ _
  have h3 : rungOf FloatKind.f64.format m (-((lp .f32 : Nat) : Int) + (e : Int)) ≤ FloatKind.f64.format.infRung := by
    unfold rungOf
    split
    · exact Nat.zero_le _
    · exact Nat.min_le_right _ _
  rw [hw, e2, rg_word _ _ _ (Nat.lt_of_le_of_lt h3 (inf_lt _))]
  refine le_rung _ m _ r64 (e + dW) 0 (by have := dW_eq; rw [lp_eq]; simp only [lp]; omega) hr64 ?_
  rw [hm, Nat.pow_add, ← Nat.mul_assoc, f.val, Nat.pow_zero, Nat.mul_one]
  exact Nat.mul_le_mul_right _ (mag_le _ hr)
theorem wide_infW {w : Nat} (h : rgF .f32 w = FloatKind.f32.format.infRung) : rgF .f64 (wide w) = FloatKind.f64.format.infRung ∧ sg .f64 (wide w) = sg .f32 w := by
  have e1 : Ieee.single.read w = _ := read_inf h
  have hw : wide w = FloatKind.f64.format.write (.infinity (sg .f32 w)) := by unfold wide; rw [e1]; rfl
  rw [hw]; exact ⟨rg_write_inf _ _, sg_write_inf _ _⟩
theorem sg_wide {w : Nat} (h : isNum .f32 w = true) : sg .f64 (wide w) = sg .f32 w := by
  have h1 : rgF .f32 w ≤ FloatKind.f32.format.infRung := (isNum_iff _ _).1 h
  rcases Nat.lt_or_ge (rgF .f32 w) FloatKind.f32.format.infRung with h2 | h2
  · obtain ⟨m, e, f⟩ := fin_of h2
    have hw : wide w = FloatKind.f64.format.write (.number (sg .f32 w) m (-((lp .f32 : Nat) : Int) + (e : Int))) := by
      unfold wide
      have := f.read
      have e1 : Ieee.single.read w = _ := this
      rw [e1]; rfl
    rw [hw]; exact sg_write _ _ _ _
  · exact (wide_infW (by omega)).2
theorem isNum_wide {w : Nat} (h : isNum .f32 w = true) : isNum .f64 (wide w) = true := by
  have h1 : rgF .f32 w ≤ FloatKind.f32.format.infRung := (isNum_iff _ _).1 h
  rcases Nat.lt_or_ge (rgF .f32 w) FloatKind.f32.format.infRung with h2 | h2
  · obtain ⟨m, e, f⟩ := fin_of h2
    have hw : wide w = FloatKind.f64.format.write (.number (sg .f32 w) m (-((lp .f32 : Nat) : Int) + (e : Int))) := by
      unfold wide
      have := f.read
      have e1 : Ieee.single.read w = _ := this
      rw [e1]; rfl
    rw [hw]; exact write_num .f64 _ rfl
  · rw [isNum_iff]; exact Nat.le_of_eq (wide_infW (by omega)).1

theorem key_neg {k : FloatKind} {w : Nat} (h : sg k w = true) : key k.format w = -((rgF k w : Nat) : Int) := by
  unfold key; unfold sg at h; rw [h]; rfl
theorem cmp_lt_iff {a b : Int} : (compare a b == .lt) = decide (a < b) := by
  rcases Int.lt_trichotomy a b with h | h | h
  · rw [cmp_lt h, decide_eq_true h]; rfl
  · rw [cmp_eq h, decide_eq_false (by omega)]; rfl
  · rw [cmp_gt h, decide_eq_false (by omega)]; rfl
theorem fLt_key (k : FloatKind) (a b : Nat) : fLt k (some a) (some b) = decide (key k.format a < key k.format b) := by
  have h : fLt k (some a) (some b) = (some (compare (key k.format a) (key k.format b)) == some .lt) := rfl
  rw [h]
  rcases Int.lt_trichotomy (key k.format a) (key k.format b) with h | h | h
  · rw [cmp_lt h, decide_eq_true h]; rfl
  · rw [cmp_eq h, decide_eq_false (by omega)]; rfl
  · rw [cmp_gt h, decide_eq_false (by omega)]; rfl

/-! The bounds -200 and 200. -/
theorem mag200 : mag FloatKind.f64.format 4641240890982006784 = mag FloatKind.f32.format 1128792064 * 2 ^ dW := by decide +kernel
theorem mag200' : mag FloatKind.f64.format (4641240890982006784 + 536870912) = mag FloatKind.f32.format 1128792065 * 2 ^ dW := by decide +kernel
theorem lt200 {w : Nat} (h : isNum .f32 w = true) (hs : sg .f32 w = true) : fLt .f64 (some (wide w)) (some 13864612927836782592) = fLt .f32 (some w) (some 3276275712) := by
  have h1 : rgF .f32 w ≤ FloatKind.f32.format.infRung := (isNum_iff _ _).1 h
  have hs' : sg .f64 (wide w) = true := by rw [sg_wide h]; exact hs
  rw [fLt_key, fLt_key, key_neg hs, key_neg hs']
  have e1 : key FloatKind.f64.format 13864612927836782592 = -4641240890982006784 := by decide +kernel
  have e2 : key FloatKind.f32.format 3276275712 = -1128792064 := by decide +kernel
  rw [e1, e2]
  have i64 : FloatKind.f64.format.infRung = 9218868437227405312 := rfl
  have i32 : FloatKind.f32.format.infRung = 2139095040 := rfl
  rcases Nat.lt_or_ge (rgF .f32 w) FloatKind.f32.format.infRung with h2 | h2
  · rcases Nat.lt_or_ge 1128792064 (rgF .f32 w) with h3 | h3
    · have := le_wide h2 1128792065 _ (by omega) (by rw [i64]; omega) mag200'
      rw [decide_eq_true (by omega), decide_eq_true (by omega)]
    · have := (wide_le h2 1128792064 _ h3 (by rw [i64]; omega) mag200).1
      rw [decide_eq_false (by omega), decide_eq_false (by omega)]
  · have := (wide_infW (w := w) (by omega)).1
    rw [decide_eq_true (by omega), decide_eq_true (by omega)]
theorem gt200 {k : FloatKind} {w c : Nat} (hs : sg k w = true) (hc : sg k c = false) : fGt k (some w) (some c) = false := by
  have h : fGt k (some w) (some c) = (some (compare (key k.format w) (key k.format c)) == some .gt) := rfl
  rw [h]
  have hk : key k.format c = ((rgF k c : Nat) : Int) := by unfold key; unfold sg at hc; rw [hc]; rfl
  rw [key_neg hs, hk]
  rcases Int.lt_trichotomy (-((rgF k w : Nat) : Int)) ((rgF k c : Nat) : Int) with h | h | h
  · rw [cmp_lt h]; rfl
  · rw [cmp_eq h]; rfl
  · omega

/-! The function. -/
def kF (j : Nat) : Nat := FloatKind.f64.nearest (12 - (j : Int))
def expT (w : Nat) : Option Nat := opC .quo .f64 (some (wide w)) (some 4643211215818981376)
def expP (t : Option Nat) : Nat → Option Nat
  | 0 => some 4607182418800017408
  | j + 1 => opC .add .f64 (some 4607182418800017408) (opC .quo .f64 (opC .mul .f64 t (expP t j)) (some (kF j)))
def expQ (p : Option Nat) : Nat → Option Nat
  | 0 => p
  | j + 1 => opC .mul .f64 (expQ p j) (expQ p j)
def expR (w : Nat) : Option Nat := if fLt .f32 (some w) (some 3276275712) then some 0 else (cvC .f64 .f32 (expQ (expP (expT w) 12) 8)).getD none
theorem kF_ok : ∀ j, j < 12 → oneW .f64 ≤ rgF .f64 (kF j) ∧ rgF .f64 (kF j) < FloatKind.f64.format.infRung ∧ sg .f64 (kF j) = false ∧ opC .sub .f64 (some (kF j)) (some 4607182418800017408) = some (kF (j + 1)) ∧ fGe .f64 (some (kF j)) (some 4607182418800017408) = true := by decide +kernel
theorem kF_end : fGe .f64 (some (kF 12)) (some 4607182418800017408) = false := by decide +kernel
theorem kF_0 : kF 0 = 4622945017495814144 := by decide +kernel
theorem expP_ok {t : Option Nat} (ht : ∃ w, t = some w ∧ U .f64 w ∧ sg .f64 w = true) : ∀ j, j ≤ 12 → ∃ p, expP t j = some p ∧ U .f64 p ∧ sg .f64 p = false
  | 0, _ => ⟨_, rfl, U_one .f64, sg_zero .f64⟩
  | j + 1, hj => by
    obtain ⟨w, rfl, hw, hs⟩ := ht
    obtain ⟨p, hp, hu, hps⟩ := expP_ok ⟨w, rfl, hw, hs⟩ j (by omega)
    obtain ⟨z1, e1, u1, s1⟩ := mul_U hw hu
    rw [hs, hps] at s1
    obtain ⟨k1, k2, k3, _, _⟩ := kF_ok j (by omega)
    obtain ⟨z2, e2, u2, s2⟩ := div_U (x := z1) (y := kF j) u1.lt k2 (Nat.lt_of_lt_of_le (by decide) k1) (Nat.le_trans u1 k1)
    rw [s1, k3] at s2
    obtain ⟨z3, e3, u3, s3⟩ := sub_U u2 s2
    refine ⟨z3, ?_, u3, s3⟩
    rw [expP, hp]
    simp only [opC, Option.bind_some, e1, e2]
    exact e3
theorem expQ_ok {p : Option Nat} (hp : ∃ w, p = some w ∧ U .f64 w ∧ sg .f64 w = false) : ∀ j, ∃ q, expQ p j = some q ∧ U .f64 q ∧ sg .f64 q = false
  | 0 => by obtain ⟨w, rfl, h⟩ := hp; exact ⟨w, rfl, h⟩
  | j + 1 => by
    obtain ⟨q, hq, hu, hs⟩ := expQ_ok hp j
    obtain ⟨z, e, u, s⟩ := mul_U hu hu
    rw [hs] at s
    exact ⟨z, by rw [expQ, hq]; exact e, u, by rw [s]; rfl⟩
theorem exp_ok {w : Nat} (h : isNum .f32 w = true) (hs : sg .f32 w = true) (hl : fLt .f32 (some w) (some 3276275712) = false) : ∃ z, cvC .f64 .f32 (expQ (expP (expT w) 12) 8) = some (some z) ∧ expR w = some z := by
  rw [fLt_key, key_neg hs] at hl
  have e2 : key FloatKind.f32.format 3276275712 = -1128792064 := by decide +kernel
  rw [e2] at hl
  have i32 : FloatKind.f32.format.infRung = 2139095040 := rfl
  have i64 : FloatKind.f64.format.infRung = 9218868437227405312 := rfl
  have hr : rgF .f32 w ≤ 1128792064 := by simp at hl; omega
  have g1 := wide_le (w := w) (by omega) 1128792064 _ hr (by rw [i64]; omega) mag200
  have c1 : rgF .f64 4643211215818981376 = 4643211215818981376 := by decide +kernel
  have c2 : sg .f64 4643211215818981376 = false := by decide +kernel
  obtain ⟨t, et, ut, st⟩ := div_U (k := .f64) (x := wide w) (y := 4643211215818981376) (by omega) (by omega) (by omega) (by omega)
  rw [g1.2, hs, c2] at st
  have ht : expT w = some t := et
  obtain ⟨p, ep, up, sp⟩ := expP_ok (t := expT w) ⟨t, ht, ut, st⟩ 12 (Nat.le_refl _)
  obtain ⟨q, eq, uq, sq⟩ := expQ_ok (p := expP (expT w) 12) ⟨p, ep, up, sp⟩ 8
  obtain ⟨z, ez, _, _⟩ := narrow_U uq
  refine ⟨z, by rw [eq]; exact ez, ?_⟩
  unfold expR
  rw [fLt_key, key_neg hs, e2, decide_eq_false (by omega), if_neg (by simp), eq, ez]; rfl
end Go.Proofs.Ytonlgkecphijoaa
