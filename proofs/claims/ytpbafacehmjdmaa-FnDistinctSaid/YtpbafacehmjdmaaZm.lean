/- Texts Key, Fl, Aa, Ab, Ac, Ad, Ae, Af, Ag, Ah, Ai, Aj, Ak, Al, Am, An of the abstract machine and its laws, in one. -/
import Derived.Laws.FloatArith
import Derived.WalkKit
import Derived.WalkLawsBesides
import Derived.Deep.Draws
import Derived.Lib.Hide
import Derived.Deep.QuietTactic
import Derived.BigQuiet
import Derived.Deep.RegionHeld3
import Derived.Laws.Externs
import Derived.Test.YtpbafacehmjdmaaRows
import Derived.Orders
import Derived.Laws.MakeOwn
import Derived.Laws.OwnMore
import Derived.ArgAppend
import Derived.Laws.Small
import Derived.Tactics
namespace Go.Proofs.Ytpbafacehmjdmaa
open Ieee
set_option linter.unusedSimpArgs false
set_option linter.unusedVariables false

/-- The magnitude of a finite rung, in units of the least place. -/
def mag (f : Format) (r : Nat) : Nat := if r < f.binade then r else (f.binade + r % f.binade) * 2 ^ (r / f.binade - 1)

theorem binade_pos (f : Format) : 0 < f.binade := Nat.two_pow_pos _

theorem mag_succ (f : Format) (r : Nat) : mag f r < mag f (r + 1) := by
  have hb := binade_pos f
  unfold mag
  by_cases h1 : r + 1 < f.binade
  · rw [if_pos (by omega), if_pos h1]; omega
  · rw [if_neg h1]
    by_cases h0 : r < f.binade
    · rw [if_pos h0]
      have e : r + 1 = f.binade := by omega
      rw [e, Nat.mod_self, Nat.div_self hb]; simp; omega
    · rw [if_neg h0]
      have hr := Nat.div_add_mod r f.binade
      have hm := Nat.mod_lt r hb
      have hq : 1 ≤ r / f.binade := (Nat.one_le_div_iff hb).2 (by omega)
      generalize hQ : r / f.binade = q at *
      generalize hM : r % f.binade = m at *
      by_cases hc : m + 1 < f.binade
      · have e1 : (r + 1) / f.binade = q := by
          rw [← hr, Nat.add_assoc, Nat.mul_add_div hb, Nat.div_eq_of_lt hc]; rfl
        have e2 : (r + 1) % f.binade = m + 1 := by
          rw [← hr, Nat.add_assoc, Nat.mul_add_mod, Nat.mod_eq_of_lt hc]
        rw [e1, e2]
        exact Nat.mul_lt_mul_of_pos_right (by omega) (Nat.two_pow_pos _)
      · have e0 : m + 1 = f.binade := by omega
        have e1 : (r + 1) / f.binade = q + 1 := by
          rw [← hr, Nat.add_assoc, e0, ← Nat.mul_succ, Nat.mul_div_cancel_left _ hb]
        have e2 : (r + 1) % f.binade = 0 := by
          rw [← hr, Nat.add_assoc, e0, ← Nat.mul_succ, Nat.mul_mod_right]
        rw [e1, e2]
        have e3 : q + 1 - 1 = (q - 1) + 1 := by omega
        rw [e3, Nat.pow_succ, Nat.add_zero, ← Nat.mul_assoc, Nat.mul_right_comm]
        exact Nat.mul_lt_mul_of_pos_right (by omega) (Nat.two_pow_pos _)

theorem mag_mono (f : Format) {a b : Nat} (h : a < b) : mag f a < mag f b := by
  induction b with
  | zero => omega
  | succ b ih =>
    by_cases e : a = b
    · subst e; exact mag_succ f a
    · exact Nat.lt_trans (ih (by omega)) (mag_succ f b)

/-- The key of a word: its rung, with its sign. -/
def key (f : Format) (w : Nat) : Int := if w / f.signWeight % 2 == 1 then -((w % f.signWeight : Nat) : Int) else ((w % f.signWeight : Nat) : Int)

theorem cmp_congr {a b c d : Int} (h1 : a < b ↔ c < d) (h2 : a = b ↔ c = d) : compare a b = compare c d := by
  show compareOfLessAndEq a b = compareOfLessAndEq c d
  unfold compareOfLessAndEq
  simp only [h1, h2]

def sgn (s : Bool) (n : Nat) : Int := if s then -(n : Int) else (n : Int)

theorem cmp_lt {x y : Int} (h : x < y) : compare x y = .lt := by
  show compareOfLessAndEq x y = .lt
  unfold compareOfLessAndEq
  rw [if_pos h]
theorem cmp_eq {x y : Int} (h : x = y) : compare x y = .eq := by
  show compareOfLessAndEq x y = .eq
  unfold compareOfLessAndEq
  rw [if_neg (by omega), if_pos h]
theorem cmp_gt {x y : Int} (h : y < x) : compare x y = .gt := by
  show compareOfLessAndEq x y = .gt
  unfold compareOfLessAndEq
  rw [if_neg (by omega), if_neg (by omega)]

theorem sgn_mono {g : Nat → Nat} (g0 : g 0 = 0) (hg : ∀ a b, a < b → g a < g b) (s t : Bool) (a b : Nat) : compare (sgn s (g a)) (sgn t (g b)) = compare (sgn s a) (sgn t b) := by
  have hle : ∀ a b, g a = g b ↔ a = b := fun a b => ⟨fun h => by
    rcases Nat.lt_trichotomy a b with h1 | h1 | h1
    · have := hg _ _ h1; omega
    · exact h1
    · have := hg _ _ h1; omega, fun h => by rw [h]⟩
  have hlt : ∀ a b, g a < g b ↔ a < b := fun a b => ⟨fun h => by
    rcases Nat.lt_trichotomy a b with h1 | h1 | h1
    · exact h1
    · subst h1; omega
    · have := hg _ _ h1; omega, hg a b⟩
  have p0 : ∀ a, 0 < g a ↔ 0 < a := fun a => by have := hlt 0 a; rw [g0] at this; exact this
  have h1 := hle a b; have h2 := hlt a b; have h3 := hlt b a; have h4 := p0 a; have h5 := p0 b
  refine cmp_congr ?_ ?_ <;> unfold sgn <;> cases s <;> cases t <;> simp <;> omega

theorem compare_mul (x y : Int) (c : Nat) (hc : 0 < c) : compare (x * c) (y * c) = compare x y :=
  cmp_congr (by constructor
                · exact fun h => Int.lt_of_mul_lt_mul_right h (by omega)
                · exact fun h => Int.mul_lt_mul_of_pos_right h (by omega))
    (by constructor
        · exact fun h => Int.eq_of_mul_eq_mul_right (by omega) h
        · exact fun h => by rw [h])

theorem mag_zero (f : Format) : mag f 0 = 0 := by unfold mag; rw [if_pos (binade_pos f)]

theorem key_eq (f : Format) (w : Nat) : key f w = sgn (w / f.signWeight % 2 == 1) (w % f.signWeight) := by
  unfold key sgn; rfl

def isNum (k : FloatKind) (w : Nat) : Bool := !(k.format.read w).isNaN

theorem bin_le (k : FloatKind) : k.format.binade ≤ k.format.infRung := by cases k <;> decide

/-- What a word that is no NaN stands for. -/
theorem read_num (k : FloatKind) (w : Nat) (h : isNum k w = true) :
    (w % k.format.signWeight < k.format.infRung ∧ ∃ m e : Nat, k.format.read w = .number (w / k.format.signWeight % 2 == 1) m (k.format.leastPlace + (e : Int)) ∧ m * 2 ^ e = mag k.format (w % k.format.signWeight)) ∨
    (w % k.format.signWeight = k.format.infRung ∧ k.format.read w = .infinity (w / k.format.signWeight % 2 == 1)) := by
  have hb := bin_le k
  unfold isNum Format.read at h
  unfold Format.read mag
  dsimp only at h ⊢
  split
  · exact Or.inl ⟨by omega, w % k.format.signWeight, 0, by simp, by simp⟩
  · rename_i h1
    rw [if_neg h1] at h
    split
    · exact Or.inl ⟨by assumption, _, _, rfl, rfl⟩
    · rename_i h2
      rw [if_neg h2] at h
      split
      · rename_i h3
        exact Or.inr ⟨h3, rfl⟩
      · rename_i h3
        rw [if_neg h3] at h
        simp [Datum.isNaN] at h

theorem isNum_iff (k : FloatKind) (w : Nat) : isNum k w = true ↔ w % k.format.signWeight ≤ k.format.infRung := by
  constructor
  · intro h
    rcases read_num k w h with ⟨h1, _⟩ | ⟨h1, _⟩ <;> omega
  · intro h
    have hb := bin_le k
    unfold isNum Format.read
    dsimp only
    split
    · rfl
    · split
      · rfl
      · rw [if_pos (by omega)]; rfl

theorem signed_scale (s : Bool) (m a c : Nat) : signed s m a * ((2 ^ c : Nat) : Int) = sgn s (m * 2 ^ (a + c)) := by
  unfold signed sgn
  rw [Nat.shiftLeft_eq, Nat.pow_add]
  cases s <;> simp [Int.neg_mul, Int.mul_assoc]

/-- The order of words that are no NaN is that of their keys. -/
theorem order_key (k : FloatKind) (a b : Nat) (ha : isNum k a = true) (hb : isNum k b = true) : k.format.order a b = some (compare (key k.format a) (key k.format b)) := by
  have key1 := key_eq k.format a
  have key2 := key_eq k.format b
  rw [key1, key2]
  unfold Format.order
  have hI : 0 < k.format.infRung := Nat.lt_of_lt_of_le (binade_pos _) (bin_le k)
  rcases read_num k a ha with ⟨l1, m, e, r1, v1⟩ | ⟨l1, r1⟩ <;> rcases read_num k b hb with ⟨l2, n, d, r2, v2⟩ | ⟨l2, r2⟩
  · rw [r1, r2]
    generalize (a / k.format.signWeight % 2 == 1) = s at *
    generalize (b / k.format.signWeight % 2 == 1) = t at *
    simp only [Datum.order]
    have e1 : (k.format.leastPlace + (e : Int) - min (k.format.leastPlace + (e : Int)) (k.format.leastPlace + (d : Int))).toNat = e - min e d := by omega
    have e2 : (k.format.leastPlace + (d : Int) - min (k.format.leastPlace + (e : Int)) (k.format.leastPlace + (d : Int))).toNat = d - min e d := by omega
    rw [e1, e2, ← compare_mul _ _ (2 ^ min e d) (Nat.two_pow_pos _), signed_scale, signed_scale, Nat.sub_add_cancel (Nat.min_le_left _ _), Nat.sub_add_cancel (Nat.min_le_right _ _), v1, v2]
    rw [sgn_mono (mag_zero _) (fun _ _ h => mag_mono _ h)]
  · rw [r1, r2, l2]
    generalize (a / k.format.signWeight % 2 == 1) = s at *
    generalize (b / k.format.signWeight % 2 == 1) = t at *
    simp only [Datum.order]
    congr 1
    cases t
    · rw [cmp_lt (by unfold sgn; cases s <;> simp <;> omega)]; rfl
    · rw [cmp_gt (by unfold sgn; cases s <;> simp <;> omega)]; rfl
  · rw [r1, r2, l1]
    generalize (a / k.format.signWeight % 2 == 1) = s at *
    generalize (b / k.format.signWeight % 2 == 1) = t at *
    simp only [Datum.order]
    congr 1
    cases s
    · rw [cmp_gt (by unfold sgn; cases t <;> simp <;> omega)]; rfl
    · rw [cmp_lt (by unfold sgn; cases t <;> simp <;> omega)]; rfl
  · rw [r1, r2, l1, l2]
    generalize (a / k.format.signWeight % 2 == 1) = s at *
    generalize (b / k.format.signWeight % 2 == 1) = t at *
    simp only [Datum.order]
    congr 1
    cases s <;> cases t
    · rw [cmp_eq rfl]; rfl
    · rw [cmp_gt (by unfold sgn; simp; omega)]; rfl
    · rw [cmp_lt (by unfold sgn; simp; omega)]; rfl
    · rw [cmp_eq rfl]; rfl

theorem order_nan (k : FloatKind) (a b : Nat) (h : isNum k a = false ∨ isNum k b = false) : k.format.order a b = none := by
  unfold isNum at h
  unfold Format.order
  cases hr : k.format.read a <;> cases hs : k.format.read b <;> simp_all [Datum.isNaN, Datum.order]

/-- One word a key and a sign, below the width. -/
theorem key_inj (k : FloatKind) (a b : Nat) (ha : a < 2 * k.format.signWeight) (hb : b < 2 * k.format.signWeight) (h : key k.format a = key k.format b) (hs : a / k.format.signWeight = b / k.format.signWeight) : a = b := by
  have h1 := Nat.div_add_mod a k.format.signWeight
  have h2 := Nat.div_add_mod b k.format.signWeight
  have : a % k.format.signWeight = b % k.format.signWeight := by
    unfold key at h
    rw [hs] at h
    split at h <;> omega
  rw [← h1, ← h2, hs, this]

end Go.Proofs.Ytpbafacehmjdmaa

namespace Go.Proofs.Ytpbafacehmjdmaa
open Go.RowKit
set_option linter.unusedSimpArgs false
set_option linter.unusedVariables false

/-- The NaN that an invalid operation draws. -/
def nanOf (k : FloatKind) (x y : Nat) (w : World) : Nat := (Question.nanBits k x y).cut (w.tape w.drawn (.nanBits k x y))

theorem run_float_nan {P : Program} (op : BinOp) (t : TypeId) (k : FloatKind) (x y : Nat) (w : World) (ho : op = .add ∨ op = .sub ∨ op = .mul ∨ op = .quo) (h : floatBits op k x y = none) :
    (binOp op t (.float k x) (.float k y)).run P w = .ok (.float k (nanOf k x y w)) w.drew := by
  unfold floatBits at h
  rcases ho with rfl | rfl | rfl | rfl <;> simp only at h <;> simp [binOp, Op.floatArith, h, nanOf, choose, Question.forced] <;> rfl

theorem read_nan32 (t : Nat) : ∃ s f, Ieee.single.read ((t % 2) * 2 ^ 31 + 0x7f800000 + 1 + (t / 2) % (2 ^ 23 - 1)) = .nan s f := by
  have h1 : (t / 2) % (2 ^ 23 - 1) < 2 ^ 23 - 1 := Nat.mod_lt _ (by decide)
  have h2 : t % 2 < 2 := Nat.mod_lt _ (by decide)
  generalize (t / 2) % (2 ^ 23 - 1) = m at *
  generalize t % 2 = s at *
  unfold Ieee.Format.read
  have e1 : Ieee.single.signWeight = 2147483648 := rfl
  have e2 : Ieee.single.infRung = 2139095040 := rfl
  have e3 : Ieee.single.binade = 8388608 := rfl
  simp only [e1, e2, e3]
  have hr : (s * 2 ^ 31 + 2139095040 + 1 + m) % 2147483648 = 2139095041 + m := by omega
  rw [hr, if_neg (by omega), if_neg (by omega), if_neg (by omega)]
  exact ⟨_, _, rfl⟩

theorem read_nan64 (t : Nat) : ∃ s f, Ieee.double.read ((t % 2) * 2 ^ 63 + 0x7ff0000000000000 + 1 + (t / 2) % (2 ^ 52 - 1)) = .nan s f := by
  have h1 : (t / 2) % (2 ^ 52 - 1) < 2 ^ 52 - 1 := Nat.mod_lt _ (by decide)
  have h2 : t % 2 < 2 := Nat.mod_lt _ (by decide)
  generalize (t / 2) % (2 ^ 52 - 1) = m at *
  generalize t % 2 = s at *
  unfold Ieee.Format.read
  have e1 : Ieee.double.signWeight = 9223372036854775808 := rfl
  have e2 : Ieee.double.infRung = 9218868437227405312 := rfl
  have e3 : Ieee.double.binade = 4503599627370496 := rfl
  simp only [e1, e2, e3]
  have hr : (s * 2 ^ 63 + 0x7ff0000000000000 + 1 + m) % 9223372036854775808 = 9218868437227405313 + m := by omega
  rw [hr, if_neg (by omega), if_neg (by omega), if_neg (by omega)]
  exact ⟨_, _, rfl⟩

theorem read_nanOf (k : FloatKind) (x y : Nat) (w : World) : ∃ s f, k.format.read (nanOf k x y w) = .nan s f := by
  cases k
  · exact read_nan32 _
  · exact read_nan64 _

theorem isNum_nanOf (k : FloatKind) (x y : Nat) (w : World) : isNum k (nanOf k x y w) = false := by
  obtain ⟨s, f, h⟩ := read_nanOf k x y w
  simp [isNum, h, Ieee.Datum.isNaN]

/-- A float up to NaN: 'none' is a NaN. -/
def can (k : FloatKind) (b : Nat) : Option Nat := if isNum k b then some b else none

theorem can_num {k : FloatKind} {b : Nat} (h : isNum k b = true) : can k b = some b := by simp [can, h]
theorem can_nan {k : FloatKind} {b : Nat} (h : isNum k b = false) : can k b = none := by simp [can, h]
theorem can_some {k : FloatKind} {b r : Nat} (h : can k b = some r) : r = b ∧ isNum k b = true := by
  unfold can at h
  split at h
  · rename_i hn; exact ⟨(Option.some.inj h).symm, hn⟩
  · cases h

theorem can_nanOf (k : FloatKind) (x y : Nat) (w : World) : can k (nanOf k x y w) = none := can_nan (isNum_nanOf k x y w)

theorem word_mod (f : Ieee.Format) (neg : Bool) (r : Nat) (h : r < f.signWeight) : f.word neg r % f.signWeight = r := by
  unfold Ieee.Format.word
  split
  · rw [Nat.add_mod_left, Nat.mod_eq_of_lt h]
  · exact Nat.mod_eq_of_lt h

theorem nearest_mod (f : Ieee.Format) (neg : Bool) (m : Nat) (p : Int) : f.nearest neg m p % f.signWeight ≤ f.infRung := by
  have hI := f.infRung_lt
  unfold Ieee.Format.nearest
  dsimp only
  split
  · rw [word_mod _ _ _ (by omega)]; omega
  · rw [word_mod _ _ _ (by omega)]; omega

theorem write_num (k : FloatKind) (d : Ieee.Datum) (h : d.isNaN = false) : isNum k (k.format.write d) = true := by
  rw [isNum_iff]
  cases d with
  | number s m p => exact nearest_mod _ _ _ _
  | infinity s => exact Nat.le_of_eq (word_mod _ _ _ k.format.infRung_lt)
  | nan s t => simp [Ieee.Datum.isNaN] at h

theorem floatBits_num {op : BinOp} {k : FloatKind} {x y r : Nat} (h : floatBits op k x y = some r) : isNum k r = true := by
  have key : ∀ (o : Option Ieee.Datum) , (∀ d, o = some d → d.isNaN = false) → o.map k.format.write = some r → isNum k r = true := by
    intro o ho hr
    cases o with
    | none => cases hr
    | some d => cases hr; exact write_num k d (ho d rfl)
  unfold floatBits at h
  split at h
  · refine key _ ?_ h
    intro d hd; unfold Ieee.Datum.sum at hd; split at hd <;> (try split at hd) <;> cases hd <;> rfl
  · refine key _ ?_ h
    intro d hd; unfold Ieee.Datum.sum at hd; split at hd <;> (try split at hd) <;> cases hd <;> rfl
  · refine key _ ?_ h
    intro d hd; unfold Ieee.Datum.product at hd; split at hd <;> (try split at hd) <;> cases hd <;> rfl
  · refine key _ ?_ h
    intro d hd; unfold Ieee.Datum.quotient at hd; split at hd <;> (try split at hd) <;> (try split at hd) <;> cases hd <;> rfl
  · cases h

theorem floatBits_nan {op : BinOp} {k : FloatKind} {x y : Nat} (h : isNum k x = false ∨ isNum k y = false) : floatBits op k x y = none := by
  have hx : ∀ z, isNum k z = false → ∃ s f, k.format.read z = .nan s f := by
    intro z hz
    unfold isNum at hz
    cases hr : k.format.read z <;> simp [hr, Ieee.Datum.isNaN] at hz
    exact ⟨_, _, rfl⟩
  unfold floatBits
  rcases h with h | h <;> obtain ⟨s, f, hr⟩ := hx _ h <;> split <;>
    simp [Ieee.Format.add, Ieee.Format.sub, Ieee.Format.mul, Ieee.Format.div, hr, Ieee.Datum.sum, Ieee.Datum.product, Ieee.Datum.quotient, Ieee.Datum.opposite]
  all_goals (cases k.format.read x <;> simp [Ieee.Datum.sum, Ieee.Datum.product, Ieee.Datum.quotient, Ieee.Datum.opposite])

/-- An operation on floats up to NaN. -/
def opC (op : BinOp) (k : FloatKind) (x y : Option Nat) : Option Nat := x.bind fun a => y.bind fun b => floatBits op k a b

/-- Arithmetic on floats, a NaN drawn or not, in one form: the bits and how many draws. -/
def fop (op : BinOp) (k : FloatKind) (x y : Nat) (w : World) : Nat := (floatBits op k x y).getD (nanOf k x y w)
def fdr (op : BinOp) (k : FloatKind) (x y : Nat) : Nat := if (floatBits op k x y).isSome then 0 else 1

theorem run_fop {P : Program} (op : BinOp) (t : TypeId) (k : FloatKind) (x y : Nat) (w : World) (ho : op = .add ∨ op = .sub ∨ op = .mul ∨ op = .quo) :
    (binOp op t (.float k x) (.float k y)).run P w = .ok (.float k (fop op k x y w)) (w.drewN (fdr op k x y)) := by
  cases h : floatBits op k x y with
  | none => rw [run_float_nan op t k x y w ho h]; simp [fop, fdr, h]; rfl
  | some r => rw [run_float_arith w op t k x y r h]; simp [fop, fdr, h]; rfl

@[go_sem] theorem run_fadd {P : Program} (t : TypeId) (k : FloatKind) (x y : Nat) (w : World) :
    (binOp .add t (.float k x) (.float k y)).run P w = .ok (.float k (fop .add k x y w)) (w.drewN (fdr .add k x y)) := run_fop .add t k x y w (by simp)
@[go_sem] theorem run_fsub {P : Program} (t : TypeId) (k : FloatKind) (x y : Nat) (w : World) :
    (binOp .sub t (.float k x) (.float k y)).run P w = .ok (.float k (fop .sub k x y w)) (w.drewN (fdr .sub k x y)) := run_fop .sub t k x y w (by simp)
@[go_sem] theorem run_fmul {P : Program} (t : TypeId) (k : FloatKind) (x y : Nat) (w : World) :
    (binOp .mul t (.float k x) (.float k y)).run P w = .ok (.float k (fop .mul k x y w)) (w.drewN (fdr .mul k x y)) := run_fop .mul t k x y w (by simp)
@[go_sem] theorem run_fquo {P : Program} (t : TypeId) (k : FloatKind) (x y : Nat) (w : World) :
    (binOp .quo t (.float k x) (.float k y)).run P w = .ok (.float k (fop .quo k x y w)) (w.drewN (fdr .quo k x y)) := run_fop .quo t k x y w (by simp)

theorem can_fop (op : BinOp) (k : FloatKind) (x y : Nat) (w : World) : can k (fop op k x y w) = opC op k (can k x) (can k y) := by
  unfold fop opC
  by_cases hx : isNum k x = true
  · by_cases hy : isNum k y = true
    · rw [can_num hx, can_num hy]
      simp only [Option.bind_some]
      cases h : floatBits op k x y with
      | none => exact can_nanOf _ _ _ _
      | some r => exact can_num (floatBits_num h)
    · have hy' : isNum k y = false := by simpa using hy
      rw [floatBits_nan (Or.inr hy'), can_nan hy']
      cases can k x <;> exact can_nanOf _ _ _ _
  · have hx' : isNum k x = false := by simpa using hx
    rw [floatBits_nan (Or.inl hx'), can_nan hx']
    exact can_nanOf _ _ _ _

theorem order_can (k : FloatKind) (a b : Nat) : k.format.order a b = (can k a).bind fun x => (can k b).bind fun y => some (compare (key k.format x) (key k.format y)) := by
  by_cases ha : isNum k a = true
  · by_cases hb : isNum k b = true
    · rw [can_num ha, can_num hb, order_key k a b ha hb]; rfl
    · have hb' : isNum k b = false := by simpa using hb
      rw [order_nan k a b (Or.inr hb'), can_nan hb']; cases can k a <;> rfl
  · have ha' : isNum k a = false := by simpa using ha
    rw [order_nan k a b (Or.inl ha'), can_nan ha']; rfl

/-- IsFinite. -/
def finB (k : FloatKind) (b : Nat) : Bool := decide (b % k.format.signWeight < k.format.infRung)

theorem sub_self (k : FloatKind) (b : Nat) : k.format.sub b b = if finB k b then some 0 else none := by
  have hz : k.format.write (.number false 0 0) = 0 := by cases k <;> rfl
  unfold finB
  by_cases hn : isNum k b = true
  · unfold Ieee.Format.sub
    rcases read_num k b hn with ⟨h1, m, e, hr, _⟩ | ⟨h1, hr⟩
    · rw [hr]
      simp only [Ieee.Datum.opposite, Ieee.Datum.sum, h1, decide_true, if_true, Option.map_some]
      generalize (b / k.format.signWeight % 2 == 1) = s
      have e0 : (k.format.leastPlace + (e : Int) - min (k.format.leastPlace + (e : Int)) (k.format.leastPlace + (e : Int))).toNat = 0 := by omega
      rw [e0]
      have e1 : Ieee.signed s m 0 + Ieee.signed (!s) m 0 = 0 := by
        unfold Ieee.signed; cases s <;> simp <;> omega
      rw [e1]
      have : k.format.write (.number (s && !s) 0 (min (k.format.leastPlace + (e : Int)) (k.format.leastPlace + (e : Int)))) = 0 := by
        cases s <;> (show k.format.nearest false 0 _ = 0) <;> (unfold Ieee.Format.nearest; simp [Ieee.Format.word])
      simpa using this
    · rw [hr]
      simp [Ieee.Datum.opposite, Ieee.Datum.sum, h1]
  · have hn' : isNum k b = false := by simpa using hn
    have h1 : ¬ b % k.format.signWeight < k.format.infRung := by
      intro h
      exact hn ((isNum_iff k b).2 (by omega))
    have := floatBits_nan (op := .sub) (k := k) (x := b) (y := b) (Or.inl hn')
    simp only [floatBits] at this
    simp [h1, this]

theorem order_zero (k : FloatKind) : k.format.order 0 0 = some .eq := by cases k <;> decide

theorem fop_finB (k : FloatKind) (b : Nat) (w : World) : (k.format.order (fop .sub k b b w) 0 == some .eq) = finB k b := by
  unfold fop floatBits
  simp only [sub_self]
  by_cases h : finB k b = true
  · rw [if_pos h, h, Option.getD_some, order_zero]; rfl
  · have h' : finB k b = false := by simpa using h
    rw [h', if_neg (by simp), Option.getD_none, order_nan k _ _ (Or.inl (isNum_nanOf _ _ _ _))]; rfl

/-! Conversions. -/
def fcv (s k : FloatKind) (b : Nat) (w : World) : Nat :=
  if s = k then b else match s.decode b with
  | .nan _ _ => (Question.nanConv k b).cut (w.tape w.drawn (.nanConv k b))
  | .infinity g => k.encode (.infinity g)
  | .number g m e => if (k.decode (k.encode (.number g m e))).isInfinity then (Question.floatToFloat b).cut (w.tape w.drawn (.floatToFloat b)) else k.encode (.number g m e)
def fcd (s k : FloatKind) (b : Nat) : Nat :=
  if s = k then 0 else match s.decode b with
  | .nan _ _ => 1
  | .infinity _ => 0
  | .number g m e => if (k.decode (k.encode (.number g m e))).isInfinity then 1 else 0

@[go_sem] theorem run_fcv {P : Program} (src dst : TypeId) (s k : FloatKind) (b : Nat) (w : World) (hs : (P.underlying src).isSome = true) (hd : P.underlying dst = some (.float k)) :
    (convert src dst (.float s b)).run P w = .ok (.float k (fcv s k b w)) (w.drewN (fcd s k b)) := by
  obtain ⟨u, hs'⟩ := Option.isSome_iff_exists.1 hs
  unfold fcv fcd
  by_cases e : s = k
  · subst e
    cases u <;> simp [convert, run_underlying hs', run_underlying hd, Conv.floatToFloat] <;> rfl
  · cases hr : s.decode b with
    | nan g t => cases u <;> simp [convert, run_underlying hs', run_underlying hd, Conv.floatToFloat, e, hr, choose, Question.forced] <;> rfl
    | infinity g => cases u <;> simp [convert, run_underlying hs', run_underlying hd, Conv.floatToFloat, e, hr] <;> rfl
    | number g m x =>
      by_cases ho : (k.decode (k.encode (.number g m x))).isInfinity = true
      · cases u <;> simp [convert, run_underlying hs', run_underlying hd, Conv.floatToFloat, e, hr, ho, choose, Question.forced] <;> rfl
      · cases u <;> simp [convert, run_underlying hs', run_underlying hd, Conv.floatToFloat, e, hr, ho] <;> rfl

@[go_sem] theorem ext_Float64frombits (n : Int) (w : World) : (callFunc 54 #[.int .u64 n]).run Try.prog w = .ok (.value (.float .f64 n.toNat)) w := by
  rw [run_callFunc_extern (e := Extern.MathFloatBits.float64frombits) Try.func54 (by kernel_rfl) (by kernel_rfl) (by kernel_rfl) (by kernel_rfl)]; rfl

@[go_sem] theorem run_store_float (P : Program) (w : World) (a : Addr) (k : FloatKind) (b : Nat) (m : Mode) : (store a (.float k b) m).run P w = stored P w a (.float k b) m := run_store P w a _ m rfl

theorem below_drewN' {B : Nat} {a w : World} {n : Nat} (h : Below B a w) : Below B a (w.drewN n) := ⟨h.os, h.tape, h.output, h.size, h.block⟩

theorem below_next {a b c : World} (h : Below a.heap.size a b) (k : Below b.heap.size b c) : Below a.heap.size a c := h.trans (k.mono h.size)
theorem below_alloc' {a b : World} (h : Below a.heap.size a b) (o : Obj) : Below a.heap.size a (b.alloc o) := h.alloc h.size o

theorem wp_world {P : Program} {c : Code} {Q : Exit → Act → World → Prop} {a : Act} {w : World} (h : ∀ W, W = w → c.wp P Q a W) : c.wp P Q a w := h w rfl

theorem enter_of {P : Program} {fid : FuncId} {fn : Func} {c : Code} (hf : P.funcs[fid]? = some fn) (hn : (fn.name == "runtime.NumGoroutine") = false) (hb : fn.body = some c) :
    ∀ args w, (callFunc fid args).run P w = .ok (.enter fid args) w := by
  intro args w
  have h1 : fn.name ≠ "runtime.NumGoroutine" := by simpa using hn
  simp [callFunc, hf, h1, hb, Sem.run]

theorem bwy {w W w' : World} (e : Hid (W = w)) (h : Below W.heap.size W w') : Below w.heap.size w w' := by
  have e' := e.out; subst e'; exact h

theorem drw_step {w w' : World} (h : ∃ m, w' = w.drewN m) (n : Nat) : ∃ m, w'.drewN n = w.drewN m := by
  obtain ⟨m, rfl⟩ := h; exact ⟨m + n, World.drewN_drewN _ _ _⟩
theorem drw_cell {w w' : World} (h : ∃ m, w' = w.drewN m) (a : Addr) : w'.cell? a = w.cell? a := by obtain ⟨m, rfl⟩ := h; rfl
theorem drw_trans {w w' w'' : World} (h : ∃ m, w' = w.drewN m) (k : ∃ m, w'' = w'.drewN m) : ∃ m, w'' = w.drewN m := by
  obtain ⟨m, rfl⟩ := h; obtain ⟨n, rfl⟩ := k; exact ⟨m + n, World.drewN_drewN _ _ _⟩
theorem drw_eq {w W w' : World} (e : W = w) (h : ∃ m, w' = W.drewN m) : ∃ m, w' = w.drewN m := by subst e; exact h

theorem bcell {B : Nat} {W w1 : World} (hb : Below B W w1) : (∀ b o, b < B → w1.cell? ⟨b, o, none⟩ = W.cell? ⟨b, o, none⟩) ∧ (∀ b o, b < B → w1.frozen? ⟨b, o, none⟩ = W.frozen? ⟨b, o, none⟩) :=
  ⟨fun b o h => hb.cell (p := ⟨b, o, none⟩) h, fun b o h => hb.frozen (p := ⟨b, o, none⟩) h⟩

theorem IsFinite_any (b : Nat) (w : World) : Calls Try.prog 41 #[.float .f32 b] w fun e w' => e = .returned (.bool (finB .f32 b)) ∧ ∃ n, w' = w.drewN n := by
  have H := fop_finB .f32 b
  go_enter Try.func41, Try.ntmps41
  go_wp2
  go_ret
  exact ⟨rfl, _, rfl⟩

end Go.Proofs.Ytpbafacehmjdmaa

namespace Go.Proofs.Ytpbafacehmjdmaa
open Go.RowKit
set_option linter.unusedSimpArgs false
set_option linter.unusedVariables false

inductive LV where
  | junk
  | bool (b : Bool)
  | int (k : IntKind) (n : Int)
  | flt (k : FloatKind) (o : Option Nat)
  | ptr (id ver off : Nat)
  | nils
  | emp
  | sl (id ver off n : Nat) (cap : Option Nat)
  | fn (f : FuncId) (caps : List LV)
  | agg (cs : List LV)
  | tup (cs : List LV)
  deriving Inhabited

structure AO where
  ver : Nat
  ro : Bool
  el : TypeId
  sz : Nat
  cs : List LV

structure Pl where
  b : Nat
  off : Nat
  size : Nat

abbrev Hp := List AO

def ad (p : Pl) (off : Nat) : Addr := ⟨p.b, p.off + off, none⟩

/-! Lists in step. -/
def All2 {α β : Type} (R : α → β → Prop) : List α → List β → Prop
  | [], [] => True
  | a :: us, b :: bs => R a b ∧ All2 R us bs
  | _, _ => False

theorem All2.len {α β : Type} {R : α → β → Prop} : ∀ {us : List α} {bs : List β}, All2 R us bs → us.length = bs.length
  | [], [], _ => rfl
  | _ :: _, _ :: _, h => by simp [All2.len h.2]
  | [], _ :: _, h => h.elim
  | _ :: _, [], h => h.elim

theorem All2.get {α β : Type} {R : α → β → Prop} : ∀ {us : List α} {bs : List β}, All2 R us bs → ∀ (i : Nat) (a : α), us[i]? = some a → ∃ b, bs[i]? = some b ∧ R a b
  | [], [], _, i, a, h => by simp at h
  | x :: us, y :: bs, h, 0, a, e => by simp at e; subst e; exact ⟨y, rfl, h.1⟩
  | x :: us, y :: bs, h, i + 1, a, e => by simpa using All2.get h.2 i a (by simpa using e)
  | [], _ :: _, h, _, _, _ => h.elim
  | _ :: _, [], h, _, _, _ => h.elim

theorem All2.of_get {α β : Type} {R : α → β → Prop} : ∀ {us : List α} {bs : List β}, us.length = bs.length → (∀ (i : Nat) (a : α) (b : β), us[i]? = some a → bs[i]? = some b → R a b) → All2 R us bs
  | [], [], _, _ => trivial
  | x :: us, y :: bs, hl, h => ⟨h 0 x y rfl rfl, All2.of_get (by simpa using hl) fun i a b ha hb => h (i + 1) a b (by simpa using ha) (by simpa using hb)⟩
  | [], _ :: _, hl, _ => by simp at hl
  | _ :: _, [], hl, _ => by simp at hl

theorem All2.mono {α β : Type} {R R' : α → β → Prop} (hm : ∀ a b, R a b → R' a b) : ∀ {us : List α} {bs : List β}, All2 R us bs → All2 R' us bs
  | [], [], _ => trivial
  | _ :: _, _ :: _, h => ⟨hm _ _ h.1, All2.mono hm h.2⟩
  | [], _ :: _, h => h.elim
  | _ :: _, [], h => h.elim

theorem All2.app {α β : Type} {R : α → β → Prop} : ∀ {us : List α} {bs : List β} {cs : List α} {ds : List β}, All2 R us bs → All2 R cs ds → All2 R (us ++ cs) (bs ++ ds)
  | [], [], _, _, _, h => h
  | _ :: _, _ :: _, _, _, h, k => ⟨h.1, All2.app h.2 k⟩
  | [], _ :: _, _, _, h, _ => h.elim
  | _ :: _, [], _, _, h, _ => h.elim

theorem All2.set {α β : Type} {R : α → β → Prop} : ∀ {us : List α} {bs : List β} (i : Nat) {a : α} {b : β}, All2 R us bs → R a b → All2 R (us.set i a) (bs.set i b)
  | [], [], _, _, _, _, _ => trivial
  | _ :: _, _ :: _, 0, _, _, h, k => ⟨k, h.2⟩
  | _ :: _, _ :: _, i + 1, _, _, h, k => ⟨h.1, All2.set i h.2 k⟩
  | [], _ :: _, _, _, _, h, _ => h.elim
  | _ :: _, [], _, _, _, h, _ => h.elim

/-! Values. -/
def BR (μ : Nat → Pl) (H : Hp) : LV → Value → Prop
  | .junk, _ => True
  | .bool b, v => v = .bool b
  | .int k n, v => v = .int k n
  | .flt k o, v => ∃ b, v = .float k b ∧ can k b = o
  | .ptr id ver off, v => ∃ o a, H[id]? = some o ∧ ver ≤ o.ver ∧ v = .pointer (some a) ∧ (ver = o.ver → a = ad (μ id) off)
  | .nils, v => ∃ a, v = .slice a 0 0
  | .emp, v => ∃ a c, v = .slice a 0 c
  | .sl id ver off n cap, v => ∃ (o : AO) (a : Option Addr) (c : Nat), H[id]? = some o ∧ ver ≤ o.ver ∧ v = .slice a n c ∧ (ver = o.ver → n ≤ c ∧ (0 < c → a = some (ad (μ id) off)) ∧ (∀ k, cap = some k → c = k) ∧ (o.ro = false → (cap = none → off + c * o.sz = (μ id).size) ∧ off + c * o.sz ≤ (μ id).size))
  | _, _ => False

def LR (μ : Nat → Pl) (H : Hp) : LV → Value → Prop
  | .agg cs, v => ∃ vs : Array Value, v = .agg vs ∧ All2 (BR μ H) cs vs.toList
  | .fn f caps, v => ∃ vs : Array Value, v = .func (.func f) #[] vs ∧ All2 (BR μ H) caps vs.toList
  | x, v => BR μ H x v

def TR (μ : Nat → Pl) (H : Hp) : LV → Value → Prop
  | .tup cs, v => ∃ vs : Array Value, v = .tuple vs ∧ All2 (LR μ H) cs vs.toList
  | x, v => LR μ H x v

/-- What a later state keeps of an earlier one. -/
def Ext (μ : Nat → Pl) (H : Hp) (μ' : Nat → Pl) (H' : Hp) : Prop :=
  ∀ (i : Nat) (o : AO), H[i]? = some o → ∃ o' : AO, H'[i]? = some o' ∧ o.ver ≤ o'.ver ∧ o'.ro = o.ro ∧ o'.sz = o.sz ∧ o'.el = o.el ∧ (o'.ver = o.ver → μ' i = μ i)

theorem Ext.refl (μ : Nat → Pl) (H : Hp) : Ext μ H μ H := fun i o h => ⟨o, h, Nat.le_refl _, rfl, rfl, rfl, fun _ => rfl⟩

theorem Ext.trans {μ μ' μ'' : Nat → Pl} {H H' H'' : Hp} (h : Ext μ H μ' H') (k : Ext μ' H' μ'' H'') : Ext μ H μ'' H'' := by
  intro i o hi
  obtain ⟨o', h1, h2, h3, h4, h5, h6⟩ := h i o hi
  obtain ⟨o'', k1, k2, k3, k4, k5, k6⟩ := k i o' h1
  refine ⟨o'', k1, Nat.le_trans h2 k2, k3.trans h3, k4.trans h4, k5.trans h5, fun e => ?_⟩
  rw [k6 (by omega), h6 (by omega)]

theorem BR.ext {μ μ' : Nat → Pl} {H H' : Hp} (hx : Ext μ H μ' H') {x : LV} {v : Value} (h : BR μ H x v) : BR μ' H' x v := by
  cases x with
  | ptr id ver off =>
    obtain ⟨o, a, h1, h2, hv, h3⟩ := h
    obtain ⟨o', k1, k2, k3, k4, k5, k6⟩ := hx id o h1
    exact ⟨o', a, k1, Nat.le_trans h2 k2, hv, fun e => by rw [h3 (by omega), k6 (by omega)]⟩
  | sl id ver off n cap =>
    obtain ⟨o, a, c, h1, h2, hv, h3⟩ := h
    obtain ⟨o', k1, k2, k3, k4, k5, k6⟩ := hx id o h1
    refine ⟨o', a, c, k1, Nat.le_trans h2 k2, hv, fun e => ?_⟩
    obtain ⟨g2, g3, g4, g5⟩ := h3 (by omega)
    have hm := k6 (by omega)
    exact ⟨g2, by rw [hm]; exact g3, g4, by rw [hm, k3, k4]; exact g5⟩
  | _ => exact h

theorem LR.ext {μ μ' : Nat → Pl} {H H' : Hp} (hx : Ext μ H μ' H') {x : LV} {v : Value} (h : LR μ H x v) : LR μ' H' x v := by
  cases x with
  | agg cs => obtain ⟨vs, h1, h2⟩ := h; exact ⟨vs, h1, h2.mono fun _ _ => BR.ext hx⟩
  | fn f cs => obtain ⟨vs, h1, h2⟩ := h; exact ⟨vs, h1, h2.mono fun _ _ => BR.ext hx⟩
  | tup cs => exact h
  | junk => exact trivial
  | bool b => exact BR.ext (x := .bool b) hx h
  | int k n => exact BR.ext (x := .int k n) hx h
  | flt k o => exact BR.ext (x := .flt k o) hx h
  | ptr a b c => exact BR.ext (x := .ptr a b c) hx h
  | nils => exact BR.ext (x := .nils) hx h
  | emp => exact BR.ext (x := .emp) hx h
  | sl a b c d e => exact BR.ext (x := .sl a b c d e) hx h

theorem TR.ext {μ μ' : Nat → Pl} {H H' : Hp} (hx : Ext μ H μ' H') {x : LV} {v : Value} (h : TR μ H x v) : TR μ' H' x v := by
  cases x with
  | tup cs => obtain ⟨vs, h1, h2⟩ := h; exact ⟨vs, h1, h2.mono fun _ _ => LR.ext hx⟩
  | junk => exact trivial
  | bool b => exact BR.ext (x := .bool b) hx h
  | int k n => exact BR.ext (x := .int k n) hx h
  | flt k o => exact BR.ext (x := .flt k o) hx h
  | ptr a b c => exact BR.ext (x := .ptr a b c) hx h
  | nils => exact BR.ext (x := .nils) hx h
  | emp => exact BR.ext (x := .emp) hx h
  | sl a b c d e => exact BR.ext (x := .sl a b c d e) hx h
  | agg cs => exact LR.ext (x := .agg cs) hx h
  | fn f cs => exact LR.ext (x := .fn f cs) hx h

theorem LR.of_BR {μ : Nat → Pl} {H : Hp} {x : LV} {v : Value} (h : BR μ H x v) : LR μ H x v := by
  cases x <;> first | exact h | exact h.elim

theorem TR.of_LR {μ : Nat → Pl} {H : Hp} {x : LV} {v : Value} (h : LR μ H x v) : TR μ H x v := by
  cases x <;> first | exact h | exact h.elim

theorem TR.of_BR {μ : Nat → Pl} {H : Hp} {x : LV} {v : Value} (h : BR μ H x v) : TR μ H x v := TR.of_LR (LR.of_BR h)

/-! The heap. -/
structure Rep (w0 : World) (μ : Nat → Pl) (H : Hp) (w : World) : Prop where
  bel : Below w0.heap.size w0 w
  cell : ∀ (i : Nat) (o : AO), H[i]? = some o → ∀ (j : Nat) (c : LV), o.cs[j]? = some c → ∃ v, w.cell? (ad (μ i) j) = some v ∧ v.oneCell' = true ∧ BR μ H c v
  ro : ∀ (i : Nat) (o : AO), H[i]? = some o → o.ro = true → (o.cs = [] ∨ (μ i).b < w0.heap.size)
  rw : ∀ (i : Nat) (o : AO), H[i]? = some o → o.ro = false → (μ i).off = 0 ∧ o.cs.length ≤ (μ i).size ∧ ((μ i).size = 0 ∨ (w0.heap.size ≤ (μ i).b ∧ ∃ cur : Array Value, w.heap[(μ i).b]? = some (.cells cur o.el (0, 0)) ∧ cur.size = (μ i).size))
  dj : ∀ (i j : Nat) (o p : AO), H[i]? = some o → H[j]? = some p → o.ro = false → p.ro = false → (μ i).size ≠ 0 → (μ j).size ≠ 0 → (μ i).b = (μ j).b → i = j

theorem Rep.drewN {w0 : World} {μ : Nat → Pl} {H : Hp} {w : World} (h : Rep w0 μ H w) (n : Nat) : Rep w0 μ H (w.drewN n) :=
  ⟨below_drewN' h.bel, h.cell, h.ro, h.rw, h.dj⟩

theorem cell_lt {w : World} {a : Addr} {v : Value} (h : w.cell? a = some v) : a.block < w.heap.size := World.block_lt_of_cell? w a h

theorem cell_row {w : World} {b : Nat} {cur : Array Value} {e : TypeId} {fz : Nat × Nat} (h : w.heap[b]? = some (.cells cur e fz)) (j : Nat) : w.cell? ⟨b, j, none⟩ = cur[j]? := by
  simp [World.cell?, h]

theorem Rep.real {w0 : World} {μ : Nat → Pl} {H : Hp} {w : World} (h : Rep w0 μ H w) {i : Nat} {o : AO} (hi : H[i]? = some o) (hr : o.ro = false) (hz : (μ i).size ≠ 0) :
    w0.heap.size ≤ (μ i).b ∧ (μ i).off = 0 ∧ o.cs.length ≤ (μ i).size ∧ ∃ cur : Array Value, w.heap[(μ i).b]? = some (.cells cur o.el (0, 0)) ∧ cur.size = (μ i).size := by
  obtain ⟨h1, h2, h3 | h3⟩ := h.rw i o hi hr
  · exact absurd h3 hz
  · exact ⟨h3.1, h1, h2, h3.2⟩

theorem Rep.lt {w0 : World} {μ : Nat → Pl} {H : Hp} {w : World} (h : Rep w0 μ H w) {i : Nat} {o : AO} (hi : H[i]? = some o) (hr : o.ro = false) (hz : (μ i).size ≠ 0) : (μ i).b < w.heap.size := by
  obtain ⟨_, _, _, cur, hc, _⟩ := h.real hi hr hz
  rcases Nat.lt_or_ge (μ i).b w.heap.size with h | h
  · exact h
  · simp [Array.getElem?_eq_none h] at hc

/-- One object turned: its block written, or a new block taken; all other blocks us they were. -/
theorem Rep.turn {w0 : World} {μ : Nat → Pl} {H : Hp} {w w' : World} (h : Rep w0 μ H w) {id : Nat} {o o' : AO} (hi : H[id]? = some o) (hr : o.ro = false)
    (hr' : o'.ro = false) (hv : o.ver ≤ o'.ver) (hsz : o'.sz = o.sz) (hel : o'.el = o.el) (p : Pl) (hp : o'.ver = o.ver → p = μ id)
    (hb : Below w.heap.size w0 w' ∨ Below w0.heap.size w0 w') (hother : ∀ k, k < w.heap.size → (k ≠ (μ id).b ∨ (μ id).size = 0) → w'.heap[k]? = w.heap[k]?)
    (hnew : (p.b = (μ id).b ∧ p.size = (μ id).size) ∨ w.heap.size ≤ p.b) (hoff : p.off = 0) (hlen : o'.cs.length ≤ p.size)
    (hblk : p.size = 0 ∨ ∃ cur : Array Value, w'.heap[p.b]? = some (.cells cur o'.el (0, 0)) ∧ cur.size = p.size ∧
      ∀ (j : Nat) (c : LV), o'.cs[j]? = some c → ∃ v, cur[j]? = some v ∧ v.oneCell' = true ∧ BR (fun i => if i = id then p else μ i) (H.set id o') c v) :
    Rep w0 (fun i => if i = id then p else μ i) (H.set id o') w' ∧ Ext μ H (fun i => if i = id then p else μ i) (H.set id o') := by
  have hlt : id < H.length := by
    rcases Nat.lt_or_ge id H.length with h | h
    · exact h
    · simp [List.getElem?_eq_none h] at hi
  have hgid : (H.set id o')[id]? = some o' := by simp [hlt]
  have hgne : ∀ i, i ≠ id → (H.set id o')[i]? = H[i]? := fun i hne => by rw [List.getElem?_set_ne (Ne.symm hne)]
  have hext : Ext μ H (fun i => if i = id then p else μ i) (H.set id o') := by
    intro i q hq
    by_cases e : i = id
    · subst e
      have : q = o := Option.some.inj (hq.symm.trans hi)
      subst this
      exact ⟨o', hgid, hv, hr'.trans hr.symm, hsz, hel, fun e => by simp [hp e]⟩
    · exact ⟨q, (hgne i e).trans hq, Nat.le_refl _, rfl, rfl, rfl, fun _ => by simp [e]⟩
  have hbase : (μ id).size ≠ 0 → w0.heap.size ≤ (μ id).b := fun hz => (h.real hi hr hz).1
  have hbel : Below w0.heap.size w0 w' := by
    rcases hb with hb | hb
    · exact hb.mono h.bel.size
    · exact hb
  have hun : ∀ i q, i ≠ id → H[i]? = some q → q.ro = false → (μ i).size ≠ 0 → w'.heap[(μ i).b]? = w.heap[(μ i).b]? := by
    intro i q e hq hro hz
    refine hother _ (h.lt hq hro hz) ?_
    by_cases hz' : (μ id).size = 0
    · exact Or.inr hz'
    · exact Or.inl fun he => e (h.dj i id q o hq hi hro hr hz hz' he)
  refine ⟨⟨hbel, ?_, ?_, ?_, ?_⟩, hext⟩
  · intro i q hq j c hc
    by_cases e : i = id
    · subst e
      rw [hgid] at hq
      cases hq
      rcases hblk with hz | ⟨cur, hc1, hc2, hc3⟩
      · have : o'.cs = [] := List.eq_nil_of_length_eq_zero (by omega)
        rw [this] at hc; simp at hc
      obtain ⟨v, k1, k2, k3⟩ := hc3 j c hc
      refine ⟨v, ?_, k2, k3⟩
      simp only [if_true, ad, hoff, Nat.zero_add]
      rw [cell_row hc1, k1]
    · rw [hgne i e] at hq
      obtain ⟨v, k1, k2, k3⟩ := h.cell i q hq j c hc
      refine ⟨v, ?_, k2, BR.ext hext k3⟩
      simp only [e, if_false]
      rw [← k1]
      have hb1 : (μ i).b < w.heap.size := cell_lt k1
      refine World.cell?_of_block ?_
      cases hro : q.ro
      · refine hun i q e hq hro fun hz => ?_
        obtain ⟨_, g2, _⟩ := h.rw i q hq hro
        have : q.cs = [] := List.eq_nil_of_length_eq_zero (by omega)
        rw [this] at hc; simp at hc
      · refine hother _ hb1 ?_
        by_cases hz : (μ id).size = 0
        · exact Or.inr hz
        · refine Or.inl fun he => ?_
          rcases h.ro i q hq hro with h0 | h0
          · rw [h0] at hc; simp at hc
          · have := hbase hz; simp only [ad] at he; omega
  · intro i q hq hro
    by_cases e : i = id
    · subst e
      rw [hgid] at hq
      cases hq
      rw [hr'] at hro; cases hro
    · rw [hgne i e] at hq
      simpa [e] using h.ro i q hq hro
  · intro i q hq hro
    by_cases e : i = id
    · subst e
      rw [hgid] at hq
      cases hq
      simp only [if_true]
      refine ⟨hoff, hlen, ?_⟩
      rcases hblk with hz | ⟨cur, hc1, hc2, hc3⟩
      · exact Or.inl hz
      by_cases hz : p.size = 0
      · exact Or.inl hz
      refine Or.inr ⟨?_, cur, hc1, hc2⟩
      rcases hnew with hn | hn
      · rw [hn.1]; exact hbase (by omega)
      · have := h.bel.size; omega
    · rw [hgne i e] at hq
      simp only [e, if_false]
      obtain ⟨k1, k2, k3⟩ := h.rw i q hq hro
      refine ⟨k1, k2, ?_⟩
      by_cases hz : (μ i).size = 0
      · exact Or.inl hz
      rcases k3 with k3 | ⟨k3, cur', k4, k5⟩
      · exact absurd k3 hz
      refine Or.inr ⟨k3, cur', ?_, k5⟩
      rw [← k4]
      exact hun i q e hq hro hz
  · intro i j q s hq hs hqr hsr hzi hzj he
    by_cases e : i = id
    · by_cases e' : j = id
      · rw [e, e']
      · subst e
        rw [hgne j e'] at hs
        simp only [if_true, e', if_false] at he hzi hzj
        exfalso
        rcases hnew with hn | hn
        · exact e' (h.dj j i s o hs hi hsr hr hzj (by omega) (by rw [← he, hn.1]))
        · have := h.lt hs hsr hzj; omega
    · by_cases e' : j = id
      · subst e'
        rw [hgne i e] at hq
        simp only [if_true, e, if_false] at he hzi hzj
        exfalso
        rcases hnew with hn | hn
        · exact e (h.dj i j q o hq hi hqr hr hzi (by omega) (by rw [he, hn.1]))
        · have := h.lt hq hqr hzi; omega
      · rw [hgne i e] at hq
        rw [hgne j e'] at hs
        simp only [e, e', if_false] at he hzi hzj
        exact h.dj i j q s hq hs hqr hsr hzi hzj he

/-- A new object: in a new block, or nowhere (then it is empty). -/
theorem Rep.fresh0 {w0 : World} {μ : Nat → Pl} {H : Hp} {w w' : World} (h : Rep w0 μ H w) {o : AO} (hr : o.ro = false) (p : Pl)
    (hb : Below w0.heap.size w0 w') (hother : ∀ k, k < w.heap.size → w'.heap[k]? = w.heap[k]?) (hoff : p.off = 0) (hlen : o.cs.length ≤ p.size)
    (hblk : p.size = 0 ∨ (w.heap.size ≤ p.b ∧ ∃ cur : Array Value, w'.heap[p.b]? = some (.cells cur o.el (0, 0)) ∧ cur.size = p.size ∧
      ∀ (j : Nat) (c : LV), o.cs[j]? = some c → ∃ v, cur[j]? = some v ∧ v.oneCell' = true ∧ BR μ H c v)) :
    Rep w0 (fun i => if i = H.length then p else μ i) (H ++ [o]) w' ∧ Ext μ H (fun i => if i = H.length then p else μ i) (H ++ [o]) := by
  have hold : ∀ i q, H[i]? = some q → i < H.length := fun i q hq => by
    rcases Nat.lt_or_ge i H.length with h | h
    · exact h
    · simp [List.getElem?_eq_none h] at hq
  have hcase : ∀ i q, (H ++ [o])[i]? = some q → (i < H.length ∧ H[i]? = some q) ∨ (i = H.length ∧ q = o) := by
    intro i q hq
    rw [List.getElem?_append] at hq
    split at hq
    · exact Or.inl ⟨by assumption, hq⟩
    · rename_i hn
      have : i - H.length = 0 := by
        rcases Nat.lt_or_ge (i - H.length) 1 with h | h
        · omega
        · simp [List.getElem?_eq_none (l := [o]) (by simpa using h)] at hq
      rw [this] at hq
      simp at hq
      exact Or.inr ⟨by omega, hq.symm⟩
  have hext : Ext μ H (fun i => if i = H.length then p else μ i) (H ++ [o]) := by
    intro i q hq
    have hl := hold i q hq
    exact ⟨q, by rw [List.getElem?_append_left hl]; exact hq, Nat.le_refl _, rfl, rfl, rfl, fun _ => by simp [Nat.ne_of_lt hl]⟩
  refine ⟨⟨hb, ?_, ?_, ?_, ?_⟩, hext⟩
  · intro i q hq j c hc
    rcases hcase i q hq with ⟨hl, hq'⟩ | ⟨rfl, rfl⟩
    · obtain ⟨v, k1, k2, k3⟩ := h.cell i q hq' j c hc
      refine ⟨v, ?_, k2, BR.ext hext k3⟩
      simp only [Nat.ne_of_lt hl, if_false]
      rw [← k1]
      exact World.cell?_of_block (hother _ (cell_lt k1))
    · rcases hblk with hz | ⟨_, cur, hc1, hc2, hc3⟩
      · have : q.cs = [] := List.eq_nil_of_length_eq_zero (by omega)
        rw [this] at hc; simp at hc
      obtain ⟨v, k1, k2, k3⟩ := hc3 j c hc
      refine ⟨v, ?_, k2, BR.ext hext k3⟩
      simp only [if_true, ad, hoff, Nat.zero_add]
      rw [cell_row hc1, k1]
  · intro i q hq hro
    rcases hcase i q hq with ⟨hl, hq'⟩ | ⟨rfl, rfl⟩
    · simpa [Nat.ne_of_lt hl] using h.ro i q hq' hro
    · rw [hr] at hro; cases hro
  · intro i q hq hro
    rcases hcase i q hq with ⟨hl, hq'⟩ | ⟨rfl, rfl⟩
    · simp only [Nat.ne_of_lt hl, if_false]
      obtain ⟨k1, k2, k3⟩ := h.rw i q hq' hro
      refine ⟨k1, k2, ?_⟩
      by_cases hz : (μ i).size = 0
      · exact Or.inl hz
      rcases k3 with k3 | ⟨k3, cur', k4, k5⟩
      · exact absurd k3 hz
      exact Or.inr ⟨k3, cur', by rw [← k4]; exact hother _ (h.lt hq' hro hz), k5⟩
    · simp only [if_true]
      refine ⟨hoff, hlen, ?_⟩
      rcases hblk with hz | ⟨hn, cur, hc1, hc2, hc3⟩
      · exact Or.inl hz
      · exact Or.inr ⟨Nat.le_trans h.bel.size hn, cur, hc1, hc2⟩
  · intro i j q s hq hs hqr hsr hzi hzj he
    rcases hcase i q hq with ⟨hl, hq'⟩ | ⟨rfl, rfl⟩
    · rcases hcase j s hs with ⟨hl2, hs'⟩ | ⟨rfl, rfl⟩
      · simp only [Nat.ne_of_lt hl, Nat.ne_of_lt hl2, if_false] at he hzi hzj
        exact h.dj i j q s hq' hs' hqr hsr hzi hzj he
      · simp only [Nat.ne_of_lt hl, if_false, if_true] at he hzi hzj
        have := h.lt hq' hqr hzi
        rcases hblk with hz | ⟨hn, _⟩
        · exact absurd hz hzj
        · omega
    · rcases hcase j s hs with ⟨hl2, hs'⟩ | ⟨rfl, rfl⟩
      · simp only [Nat.ne_of_lt hl2, if_false, if_true] at he hzi hzj
        have := h.lt hs' hsr hzj
        rcases hblk with hz | ⟨hn, _⟩
        · exact absurd hz hzi
        · omega
      · rfl

theorem Rep.fresh {w0 : World} {μ : Nat → Pl} {H : Hp} {w w' : World} (h : Rep w0 μ H w) {o : AO} (hr : o.ro = false) (p : Pl)
    (hb : Below w0.heap.size w0 w') (hother : ∀ k, k < w.heap.size → w'.heap[k]? = w.heap[k]?) (hnew : w.heap.size ≤ p.b) (hoff : p.off = 0) (hlen : o.cs.length ≤ p.size)
    (hblk : ∃ cur : Array Value, w'.heap[p.b]? = some (.cells cur o.el (0, 0)) ∧ cur.size = p.size ∧
      ∀ (j : Nat) (c : LV), o.cs[j]? = some c → ∃ v, cur[j]? = some v ∧ v.oneCell' = true ∧ BR μ H c v) :
    Rep w0 (fun i => if i = H.length then p else μ i) (H ++ [o]) w' ∧ Ext μ H (fun i => if i = H.length then p else μ i) (H ++ [o]) :=
  h.fresh0 hr p hb hother hoff hlen (Or.inr ⟨hnew, hblk⟩)

/-- An empty object that lies nowhere. -/
theorem Rep.virt {w0 : World} {μ : Nat → Pl} {H : Hp} {w : World} (h : Rep w0 μ H w) (el sz : Nat) :
    Rep w0 (fun i => if i = H.length then ⟨0, 0, 0⟩ else μ i) (H ++ [⟨0, false, el, sz, []⟩]) w ∧ Ext μ H (fun i => if i = H.length then ⟨0, 0, 0⟩ else μ i) (H ++ [⟨0, false, el, sz, []⟩]) :=
  h.fresh0 rfl ⟨0, 0, 0⟩ h.bel (fun _ _ => rfl) rfl (Nat.le_refl _) (Or.inl rfl)
end Go.Proofs.Ytpbafacehmjdmaa

namespace Go.Proofs.Ytpbafacehmjdmaa
open Go.RowKit
set_option linter.unusedSimpArgs false
set_option linter.unusedVariables false

/-! Types, us far us operations ask for them. -/
inductive TD where
  | bool | int (k : IntKind) | flt (k : FloatKind) | slice (e : TypeId) | arr (n : Nat) (e : TypeId) | struct (fs : List (Nat × TypeId)) | ptr (e : TypeId) | other

structure TE where
  td : TD
  sz : Nat
  by_ : Nat
  zs : List LV

abbrev Tab := TypeId → Option TE

def TD.Ok : TD → TypeDesc → Prop
  | .bool, d => d = .bool
  | .int k, d => d = .int k
  | .flt k, d => d = .float k
  | .slice e, d => d = .slice e
  | .arr n e, d => d = .array n e
  | .struct fs, d => ∃ f, d = .struct f ∧ f.toList.map (fun f => (f.offset, f.type)) = fs
  | .ptr e, d => d = .pointer e
  | .other, d => (∀ f, d ≠ .struct f) ∧ (∀ n e, d ≠ .array n e)

def TD.agg : TD → Bool
  | .arr .. | .struct _ => true
  | _ => false

def TabOk (P : Program) (T : Tab) : Prop := ∀ t e, T t = some e → ∃ d i z, P.underlying t = some d ∧ e.td.Ok d ∧ P.info? t = some i ∧ i.size = e.sz ∧ i.bytes = e.by_ ∧
  i.zero = some z ∧ e.zs.length = e.sz ∧ (∀ μ H, All2 (BR μ H) e.zs z.cells.toList) ∧ ∀ v ∈ z.cells.toList, v.oneCell' = true

/-! Constants, operands. -/
def constB : Value → LV
  | .bool b => .bool b
  | .int k n => .int k n
  | .float k b => .flt k (can k b)
  | .slice none 0 0 => .nils
  | _ => .junk
def constL : Value → LV
  | .agg cs => .agg (cs.toList.map constB)
  | v => constB v
def ev (tm : List LV) : Operand → LV
  | .tmp t => tm.getD t .junk
  | .const v => constL v
  | .func f => .fn f []
  | .global _ => .junk

theorem BR_constB (μ : Nat → Pl) (H : Hp) (v : Value) : BR μ H (constB v) v := by
  unfold constB
  split <;> first | rfl | trivial | exact ⟨_, rfl, rfl⟩ | exact ⟨_, rfl⟩

theorem All2.map_left {α β γ : Type} {R : α → β → Prop} (f : γ → α) : ∀ {cs : List γ} {bs : List β}, All2 (fun c b => R (f c) b) cs bs → All2 R (cs.map f) bs
  | [], [], _ => trivial
  | _ :: _, _ :: _, h => ⟨h.1, All2.map_left f h.2⟩
  | [], _ :: _, h => h.elim
  | _ :: _, [], h => h.elim

theorem All2.diag {α : Type} {R : α → α → Prop} (h : ∀ a, R a a) : ∀ (us : List α), All2 R us us
  | [] => trivial
  | a :: us => ⟨h a, All2.diag h us⟩

theorem TR_constL (μ : Nat → Pl) (H : Hp) (v : Value) : TR μ H (constL v) v := by
  unfold constL
  split
  · rename_i cs
    exact ⟨cs, rfl, All2.map_left constB (All2.diag (R := fun c b => BR μ H (constB c) b) (fun a => BR_constB μ H a) cs.toList)⟩
  · exact TR.of_BR (BR_constB μ H v)

theorem TR_ev {μ : Nat → Pl} {H : Hp} {tm : List LV} {a : Act} (h : All2 (TR μ H) tm a.tmps.toList) (x : Operand) : TR μ H (ev tm x) (a.eval x) := by
  cases x with
  | tmp t =>
    simp only [ev, Act.eval]
    by_cases ht : t < tm.length
    · obtain ⟨v, h1, h2⟩ := h.get t tm[t] (by simp [ht])
      have e1 : tm.getD t .junk = tm[t] := by simp [ht]
      have e2 : a.tmps.getD t undef = v := by
        rw [Array.getElem?_toList] at h1
        simp [h1]
      rw [e1, e2]; exact h2
    · have e1 : tm.getD t .junk = .junk := by simp [List.getElem?_eq_none (Nat.le_of_not_lt ht)]
      rw [e1]; trivial
  | const v => exact TR_constL μ H v
  | global g => trivial
  | func f => exact ⟨#[], rfl, trivial⟩

/-! The heap read and written. -/
def hget (H : Hp) (id ver off : Nat) : Option LV := match H[id]? with
  | some o => if o.ver = ver then o.cs[off]? else none
  | none => none
def hgets (H : Hp) (id ver off n : Nat) : Option (List LV) := match H[id]? with
  | some o => if o.ver = ver ∧ off + n ≤ o.cs.length then some ((o.cs.drop off).take n) else none
  | none => none
def sets (cs : List LV) (off : Nat) : List LV → List LV
  | [] => cs
  | x :: xs => sets (cs.set off x) (off + 1) xs
def hput (H : Hp) (id ver off : Nat) (xs : List LV) : Option Hp := match H[id]? with
  | some o => if o.ver = ver ∧ o.ro = false ∧ off + xs.length ≤ o.cs.length then some (H.set id { o with cs := sets o.cs off xs }) else none
  | none => none
def liveO (H : Hp) (id ver : Nat) : Bool := match H[id]? with
  | some o => o.ver == ver
  | none => false
def hgetP (H : Hp) : LV → Option LV
  | .ptr id ver off => hget H id ver off
  | _ => none
def hgetsP (H : Hp) (n : Nat) : LV → Option (List LV)
  | .ptr id ver off => hgets H id ver off n
  | _ => none
def hputP (H : Hp) (xs : List LV) : LV → Option Hp
  | .ptr id ver off => hput H id ver off xs
  | _ => none
/-- The place of an element of a slice. -/
def ptrOf : LV → Nat → LV
  | .sl id ver off _ _, k => .ptr id ver (off + k)
  | _, _ => .junk
def idxP (H : Hp) (sz : Nat) (i : Int) : LV → Option LV
  | .sl id ver off n _ => if 0 ≤ i ∧ i < n ∧ liveO H id ver = true then some (.ptr id ver (off + i.toNat * sz)) else none
  | _ => none
def arrP (H : Hp) (sz n : Nat) (i : Int) : LV → Option LV
  | .ptr id ver off => if 0 ≤ i ∧ i < n ∧ liveO H id ver = true then some (.ptr id ver (off + i.toNat * sz)) else none
  | _ => none
def fldP (H : Hp) (fo : Nat) : LV → Option LV
  | .ptr id ver off => if liveO H id ver = true then some (.ptr id ver (off + fo)) else none
  | _ => none
def LV.isCell : LV → Bool
  | .bool _ | .int .. | .flt .. | .ptr .. | .nils | .emp | .sl .. => true
  | _ => false
def cellsL : LV → List LV
  | .agg cs => cs
  | x => [x]
def partL (T : Tab) (t : TypeId) (cs : List LV) (off : Nat) : Option LV := match T t with
  | some e => if e.td.agg then (if off + e.sz ≤ cs.length then some (.agg ((cs.drop off).take e.sz)) else none) else cs[off]?
  | none => none

/-! Arithmetic. -/
def ordC (k : FloatKind) (a b : Option Nat) : Option Ordering := a.bind fun x => b.bind fun y => some (compare (key k.format x) (key k.format y))
def fEq (k : FloatKind) (a b : Option Nat) : Bool := ordC k a b == some .eq
def fLt (k : FloatKind) (a b : Option Nat) : Bool := ordC k a b == some .lt
def fLe (k : FloatKind) (a b : Option Nat) : Bool := ordC k a b == some .lt || ordC k a b == some .eq
def fGt (k : FloatKind) (a b : Option Nat) : Bool := ordC k a b == some .gt
def fGe (k : FloatKind) (a b : Option Nat) : Bool := ordC k a b == some .gt || ordC k a b == some .eq
def ibits (op : BinOp) (k : IntKind) (x y : Int) : Int :=
  k.wrap (match op with
    | .and => BitVec.ofInt k.bits x &&& BitVec.ofInt k.bits y
    | .or => BitVec.ofInt k.bits x ||| BitVec.ofInt k.bits y
    | .xor => BitVec.ofInt k.bits x ^^^ BitVec.ofInt k.bits y
    | _ => BitVec.ofInt k.bits x &&& ~~~ BitVec.ofInt k.bits y).toNat
def aint (op : BinOp) (k : IntKind) (a b : Int) : Option LV := match op with
  | .add => some (.int k (k.wrap (a + b)))
  | .sub => some (.int k (k.wrap (a - b)))
  | .mul => some (.int k (k.wrap (a * b)))
  | .quo => if b = 0 then none else some (.int k (k.wrap (a.tdiv b)))
  | .rem => if b = 0 then none else some (.int k (a.tmod b))
  | .and => some (.int k (ibits .and k a b))
  | .or => some (.int k (ibits .or k a b))
  | .xor => some (.int k (ibits .xor k a b))
  | .andNot => some (.int k (ibits .andNot k a b))
  | .eql => some (.bool (a == b))
  | .neq => some (.bool (a != b))
  | .lss => some (.bool (decide (a < b)))
  | .leq => some (.bool (decide (a ≤ b)))
  | .gtr => some (.bool (decide (b < a)))
  | .geq => some (.bool (decide (b ≤ a)))
  | _ => none
def aflt (op : BinOp) (k : FloatKind) (a b : Option Nat) : Option LV := match op with
  | .add => some (.flt k (opC .add k a b))
  | .sub => some (.flt k (opC .sub k a b))
  | .mul => some (.flt k (opC .mul k a b))
  | .quo => some (.flt k (opC .quo k a b))
  | .eql => some (.bool (fEq k a b))
  | .neq => some (.bool (!fEq k a b))
  | .lss => some (.bool (fLt k a b))
  | .leq => some (.bool (fLe k a b))
  | .gtr => some (.bool (fGt k a b))
  | .geq => some (.bool (fGe k a b))
  | _ => none
def abin (T : Tab) (op : BinOp) (t : TypeId) : LV → LV → Option LV
  | .int k a, .int k' b => match op with
    | .shl => if 0 ≤ b then some (.int k (k.wrap (a * 2 ^ min b.toNat k.bits))) else none
    | .shr => if 0 ≤ b then some (.int k (a.fdiv (2 ^ min b.toNat k.bits))) else none
    | op => if k = k' then aint op k a b else none
  | .flt k a, .flt k' b => if k = k' then aflt op k a b else none
  | .bool a, .bool b => match T t with
    | some { td := .bool, .. } => match op with
      | .eql => some (.bool (a == b))
      | .neq => some (.bool (!(a == b)))
      | _ => none
    | _ => none
  | _, _ => none
def negC (k : FloatKind) (o : Option Nat) : Option Nat := o.map (Op.negFloat k)
def aun (op : UnOp) : LV → Option LV
  | .int k n => match op with
    | .neg => some (.int k (k.wrap (0 - n)))
    | _ => none
  | .flt k o => match op with
    | .neg => some (.flt k (negC k o))
    | _ => none
  | .bool b => match op with
    | .not => some (.bool !b)
    | _ => none
  | _ => none
def cvC (s k : FloatKind) (o : Option Nat) : Option (Option Nat) :=
  if s = k then some o else match o with
  | none => some none
  | some b => match s.decode b with
    | .infinity g => some (some (k.encode (.infinity g)))
    | .number g m e => if (k.decode (k.encode (.number g m e))).isInfinity then none else some (some (k.encode (.number g m e)))
    | .nan .. => some none
def aconv (T : Tab) (src dst : TypeId) (x : LV) : Option LV := match T src, T dst with
  | some _, some { td := .int k, .. } => match x with
    | .int _ n => some (.int k (k.wrap n))
    | .flt s (some b) => match (s.decode b).toInt .zero with
      | some n => if k.min ≤ n ∧ n ≤ k.max then some (.int k n) else none
      | none => none
    | _ => none
  | some _, some { td := .flt k, .. } => match x with
    | .int _ n => some (.flt k (some (k.nearest n)))
    | .flt s o => (cvC s k o).map (LV.flt k)
    | _ => none
  | _, _ => none

/-! Slices. -/
def aidx : LV → Option Int
  | .int _ i => some i
  | _ => none
def asliceB (n : Nat) (x : Option LV) (d : Nat) : Option Nat := match x with
  | none => some d
  | some (.int _ i) => if 0 ≤ i ∧ i ≤ n then some i.toNat else none
  | some _ => none
/-- How far a slice may be cut: its length, or what is known behind it. -/
def roomOf (o : AO) (off n : Nat) (cap : Option Nat) : Nat := match cap with
  | some k => k
  | none => if o.ro = false ∧ off + n * o.sz ≤ o.cs.length ∧ 0 < o.sz then max n ((o.cs.length - off) / o.sz) else n
def asliceS (te : TE) (H : Hp) (x : LV) (lo hi mx : Option LV) : Option LV := match x with
  | .sl id ver off n cap => match H[id]? with
    | none => none
    | some o => if o.ver ≠ ver then none else if o.sz ≠ te.sz then none else
      match asliceB (roomOf o off n cap) mx (roomOf o off n cap) with
      | none => none
      | some m => match asliceB m hi n with
        | none => none
        | some h => match asliceB h lo 0 with
          | none => none
          | some l => if mx.isSome && hi.isNone then none else some (.sl id ver (off + l * te.sz) (h - l) (if mx.isSome then some (m - l) else cap.map (· - l)))
  | .nils => match asliceB 0 mx 0, asliceB 0 hi 0, asliceB 0 lo 0 with
    | some _, some _, some _ => if mx.isSome && hi.isNone then none else some .nils
    | _, _, _ => none
  | .emp => match asliceB 0 mx 0, asliceB 0 hi 0, asliceB 0 lo 0 with
    | some _, some _, some _ => if mx.isSome && hi.isNone then none else some (if mx.isSome then .nils else .emp)
    | _, _, _ => none
  | _ => none
def aslice (T : Tab) (H : Hp) (t : TypeId) (x : LV) (lo hi mx : Option LV) : Option LV := match T t with
  | some { td := .slice e, .. } => match T e with
    | some te => asliceS te H x lo hi mx
    | none => none
  | _ => none
/-- The cells that a slice's elements take. -/
def cellsOf (H : Hp) (sz : Nat) : LV → Option (List LV)
  | .nils | .emp => some []
  | .sl id ver off n _ => hgets H id ver off (n * sz)
  | _ => none
def lenOf : LV → Option Nat
  | .nils | .emp => some 0
  | .sl _ _ _ n _ => some n
  | _ => none
def aappO (te : TE) (e : TypeId) (H : Hp) (id ver off n : Nat) (cap : Option Nat) (m : Nat) (news : List LV) : Option AO → Option (LV × Hp)
  | none => none
  | some o =>
    if o.ver ≠ ver then none else if o.sz ≠ te.sz then none else if o.el ≠ e then none else
    match cap with
    | none =>
      if o.ro then none else
      if off + (n + m) * te.sz ≤ o.cs.length then some (.sl id ver off (n + m) none, H.set id { o with cs := sets o.cs (off + n * te.sz) news })
      else if off = 0 ∧ o.cs.length = n * te.sz ∧ o.cs.all LV.isCell ∧ (n + m) * te.by_ ≤ 140737488355328 ∧ n + m ≤ 17592186044416 then some (.sl id (ver + 1) 0 (n + m) none, H.set id { o with ver := ver + 1, cs := o.cs ++ news })
      else none
    | some k =>
      if n + m ≤ k then none
      else match hgets H id ver off (n * te.sz) with
        | some olds => if olds.all LV.isCell ∧ (n + m) * te.by_ ≤ 140737488355328 ∧ n + m ≤ 17592186044416 then some (.sl H.length 0 0 (n + m) none, H ++ [⟨0, false, e, te.sz, olds ++ news⟩]) else none
        | none => none
def aapp (te : TE) (e : TypeId) (H : Hp) (x : LV) (m : Nat) (news : List LV) : Option (LV × Hp) :=
  if te.sz = 0 then none else if !news.all LV.isCell then none else
  match x with
  | .nils => if m = 0 then some (.nils, H) else if m * te.by_ ≤ 140737488355328 ∧ m ≤ 17592186044416 then some (.sl H.length 0 0 m none, H ++ [⟨0, false, e, te.sz, news⟩]) else none
  | .sl id ver off n cap => aappO te e H id ver off n cap m news H[id]?
  | _ => none
def aappend (T : Tab) (H : Hp) (t : TypeId) (x y : LV) : Option (LV × Hp) := match T t with
  | some te0 => match te0.td with
    | .slice e => match T e with
      | some te => match lenOf y, cellsOf H te.sz y with
        | some m, some news => aapp te e H x m news
        | _, _ => none
      | none => none
    | _ => none
  | none => none
def acopy (T : Tab) (H : Hp) (t : TypeId) (x y : LV) : Option (LV × Hp) := match T t with
  | some { td := .slice e, .. } => match T e with
    | some te => match lenOf x, lenOf y, cellsOf H te.sz y with
      | some n, some m, some news =>
        if !(news.take (min m n * te.sz)).all LV.isCell then none else
        match x with
        | .sl id ver off _ _ => (hput H id ver off (news.take (min m n * te.sz))).map fun H' => (.int .i64 (min m n : Nat), H')
        | .nils => some (.int .i64 0, H)
        | _ => none
      | _, _, _ => none
    | none => none
  | _ => none
def zeros (zs : List LV) (n : Nat) : List LV := (List.replicate n zs).flatten
def aclear (T : Tab) (H : Hp) (t : TypeId) (x : LV) : Option (LV × Hp) := match T t with
  | some { td := .slice e, .. } => match T e with
    | some te => match x with
      | .nils | .emp => some (.tup [], H)
      | .sl id ver off n _ => if !te.zs.all LV.isCell then none else (hput H id ver off (zeros te.zs n)).map fun H' => (.tup [], H')
      | _ => none
    | none => none
  | _ => none
def aminmax (f : Int → Int → Int) : List LV → Option LV
  | [.int k a, .int k' b] => if k = k' then some (.int k (f a b)) else none
  | [.int k a, .int k' b, .int k'' c] => if k = k' ∧ k = k'' then some (.int k (f (f a b) c)) else none
  | _ => none
def abuiltin (T : Tab) (H : Hp) : Builtin → List TypeId → List LV → Option (LV × Hp)
  | .len, [t], [x] => match T t with
    | some { td := .slice _, .. } => (lenOf x).map fun (n : Nat) => (LV.int .i64 (n : Int), H)
    | some { td := .arr n _, .. } => some (.int .i64 n, H)
    | _ => none
  | .append, [t, t'], [x, y] => if t = t' then aappend T H t x y else none
  | .copy, [t, _], [x, y] => acopy T H t x y
  | .clear, [t], [x] => aclear T H t x
  | .max, _, xs => (aminmax (fun x y => if y > x then y else x) xs).map (·, H)
  | .min, _, xs => (aminmax (fun x y => if y < x then y else x) xs).map (·, H)
  | _, _, _ => none

def afill (place : Nat → Option (Nat × Nat)) (cells : List LV) : List (Nat × LV) → Option (List LV)
  | [] => some cells
  | (i, v) :: rest => match place i with
    | none => none
    | some (off, size) => if (cellsL v).length ≠ size ∨ cells.length < off + (cellsL v).length ∨ !((cellsL v).all LV.isCell) then none else afill place (sets cells off (cellsL v)) rest

def amake (te : TE) (e : TypeId) (H : Hp) (l c : Int) : Option (LV × Hp) :=
  if 0 ≤ l ∧ l ≤ c ∧ c ≤ 17592186044416 ∧ te.by_ * c ≤ 140737488355328 then some (.sl H.length 0 0 l.toNat none, H ++ [⟨0, false, e, te.sz, zeros te.zs c.toNat⟩]) else none

/-- What an operation that calls nothing gives. -/
def aop (T : Tab) (r : Operand → LV) (H : Hp) : Op → Option (LV × Hp)
  | .move x | .assign x => some (r x, H)
  | .pick c a b => match r c with
    | .bool t => some (if t then r a else r b, H)
    | _ => none
  | .nilCheck x => match r x with
    | .ptr id ver off => some (.ptr id ver off, H)
    | .fn f cs => some (.fn f cs, H)
    | _ => none
  | .binOp op t x y _ => (abin T op t (r x) (r y)).map (·, H)
  | .unOp op _ x => (aun op (r x)).map (·, H)
  | .convert s d x => (aconv T s d (r x)).map (·, H)
  | .extract t i => match r t with
    | .tup cs => cs[i]?.map (·, H)
    | _ => none
  | .fieldAddr s x f => match T s with
    | some e => match e.td with
      | .struct fs => match fs[f]? with
        | some p => match T p.2 with
          | some te => if te.sz = 0 then none else (fldP H p.1 (r x)).map (·, H)
          | none => none
        | none => none
      | _ => none
    | none => none
  | .field s x f => match T s, r x with
    | some { td := .struct fs, .. }, .agg cs => match fs[f]? with
      | some (fo, ft) => (partL T ft cs fo).map (·, H)
      | none => none
    | _, _ => none
  | .indexAddr t x i => match T t with
    | some e0 => match e0.td with
      | .slice e => match T e, aidx (r i) with
        | some te, some j => (idxP H te.sz j (r x)).map (·, H)
        | _, _ => none
      | .arr n e => match T e, aidx (r i) with
        | some te, some j => (arrP H te.sz n j (r x)).map (·, H)
        | _, _ => none
      | _ => none
    | none => none
  | .index t x i => match T t, r x, r i with
    | some { td := .arr n e, .. }, .agg cs, .int _ i => match T e with
      | some te => if 0 ≤ i ∧ i < n then (partL T e cs (i.toNat * te.sz)).map (·, H) else none
      | none => none
    | _, _, _ => none
  | .load t a => match T t with
    | some te => if te.td.agg then (hgetsP H te.sz (r a)).map fun cs => (LV.agg cs, H) else (hgetP H (r a)).map (·, H)
    | none => none
  | .store t a v => match T t with
    | some te => if (cellsL (r v)).length = te.sz ∧ (cellsL (r v)).all LV.isCell then (hputP H (cellsL (r v)) (r a)).map fun H' => (.junk, H') else none
    | none => none
  | .alloc t => match T t with
    | some te => some (.ptr H.length 0 0, H ++ [⟨0, false, t, te.sz, te.zs⟩])
    | none => none
  | .box t v => if (cellsL (r v)).all LV.isCell then some (.ptr H.length 0 0, H ++ [⟨0, false, t, (cellsL (r v)).length, cellsL (r v)⟩]) else none
  | .build t parts => match T t with
    | some te => match te.td with
      | .struct fs => if !(fs.all fun p => (T p.2).isSome) then none else (afill (fun i => (fs[i]?).bind fun p => (T p.2).map fun e => (p.1, e.sz)) te.zs (parts.toList.map fun p => (p.1, r p.2))).map fun cs => (.agg cs, H)
      | .arr _ e => match T e with
        | some ee => (afill (fun i => some (i * ee.sz, ee.sz)) te.zs (parts.toList.map fun p => (p.1, r p.2))).map fun cs => (.agg cs, H)
        | none => none
      | _ => none
    | none => none
  | .buildSlice t len parts => match T t with
    | some { td := .slice e, .. } => match T e with
      | some te => if len * te.sz ≤ 16777216 then (afill (fun i => some (i * te.sz, te.sz)) (List.replicate (len * te.sz) .junk) (parts.toList.map fun p => (p.1, r p.2))).map fun cs => (.sl H.length 0 0 len none, H ++ [⟨0, false, e, te.sz, cs⟩]) else none
      | none => none
    | _ => none
  | .makeSlice t l c => match T t, r l, r c with
    | some { td := .slice e, .. }, .int _ l, .int _ c => match T e with
      | some te => amake te e H l c
      | none => none
    | _, _, _ => none
  | .slice t x lo hi mx => (aslice T H t (r x) (lo.map r) (hi.map r) (mx.map r)).map (·, H)
  | .makeFunc fn first caps => match fn with
    | .func f => if first.size = 0 ∧ (caps.toList.map r).all LV.isCell then some (.fn f (caps.toList.map r), H) else none
    | _ => none
  | .call c => match c.callee with
    | .builtin b => abuiltin T H b c.argTypes.toList (c.args.toList.map r)
    | _ => none
  | _ => none
end Go.Proofs.Ytpbafacehmjdmaa

namespace Go.Proofs.Ytpbafacehmjdmaa
open Go.RowKit
set_option linter.unusedSimpArgs false
set_option linter.unusedVariables false

def Snd (P : Program) (w0 : World) (μ : Nat → Pl) (H : Hp) (w : World) (run : Result Next) (x : LV) (H' : Hp) : Prop :=
  ∃ w' μ', ((∃ v, run = .ok (.value v) w' ∧ TR μ' H' x v) ∨ (run = .ok .skip w' ∧ x = .junk)) ∧ Rep w0 μ' H' w' ∧ Ext μ H μ' H'

theorem Snd.quiet {P : Program} {w0 : World} {μ : Nat → Pl} {H : Hp} {w : World} {run : Result Next} {x : LV} (hR : Rep w0 μ H w) {v : Value} (n : Nat) (h : run = .ok (.value v) (w.drewN n)) (hx : TR μ H x v) : Snd P w0 μ H w run x H :=
  ⟨_, μ, Or.inl ⟨v, h, hx⟩, hR.drewN n, Ext.refl μ H⟩

theorem Snd.still {P : Program} {w0 : World} {μ : Nat → Pl} {H : Hp} {w : World} {run : Result Next} {x : LV} (hR : Rep w0 μ H w) {v : Value} (h : run = .ok (.value v) w) (hx : TR μ H x v) : Snd P w0 μ H w run x H :=
  ⟨_, μ, Or.inl ⟨v, h, hx⟩, hR, Ext.refl μ H⟩

theorem run_eqGuard_int {P : Program} {w : World} (op : BinOp) (t : TypeId) (x y : Operand) (k k' : IntKind) (a b : Int) : (eqGuard op t x y (.int k a) (.int k' b)).run P w = .ok () w := by
  cases op <;> rfl
theorem run_eqGuard_flt {P : Program} {w : World} (op : BinOp) (t : TypeId) (x y : Operand) (k k' : FloatKind) (a b : Nat) : (eqGuard op t x y (.float k a) (.float k' b)).run P w = .ok () w := by
  cases op <;> rfl
theorem run_eqGuard_bool {P : Program} {w : World} (op : BinOp) (t : TypeId) (x y : Operand) (a b : Bool) : (eqGuard op t x y (.bool a) (.bool b)).run P w = .ok () w := by
  cases op <;> rfl

theorem run_bin_int {P : Program} {w : World} {T : Tab} {op : BinOp} {t : TypeId} {k k' : IntKind} {a b : Int} {x : LV} (h : abin T op t (.int k a) (.int k' b) = some x) (μ : Nat → Pl) (H : Hp) :
    ∃ v, (binOp op t (.int k a) (.int k' b)).run P w = .ok v w ∧ BR μ H x v := by
  cases op
  case shl =>
    simp only [abin] at h
    by_cases hb : 0 ≤ b
    · rw [if_pos hb] at h; cases h
      have : ¬ b < 0 := by omega
      exact ⟨_, by simp [binOp, Op.shift, this] <;> rfl, rfl⟩
    · rw [if_neg hb] at h; cases h
  case shr =>
    simp only [abin] at h
    by_cases hb : 0 ≤ b
    · rw [if_pos hb] at h; cases h
      have : ¬ b < 0 := by omega
      exact ⟨_, by simp [binOp, Op.shift, this] <;> rfl, rfl⟩
    · rw [if_neg hb] at h; cases h
  all_goals
    simp only [abin] at h
    by_cases hk : k = k'
    · subst hk
      simp only [if_true, aint] at h
      first
        | (by_cases hb : b = 0
           · rw [if_pos hb] at h; cases h
           · rw [if_neg hb] at h; cases h; exact ⟨_, by simp [binOp, Op.intDiv, hb] <;> rfl, rfl⟩)
        | (cases h; exact ⟨_, by simp [binOp, Op.intArith] <;> rfl, rfl⟩)
        | (cases h; exact ⟨_, by simp [binOp, Op.intBits] <;> rfl, rfl⟩)
        | (cases h; exact ⟨_, by simp [binOp, Op.intCmp] <;> rfl, rfl⟩)
        | (cases h)
    · rw [if_neg hk] at h; cases h

theorem order_ordC (k : FloatKind) (a b : Nat) : k.format.order a b = ordC k (can k a) (can k b) := order_can k a b

theorem run_bin_flt {P : Program} {w : World} {T : Tab} {op : BinOp} {t : TypeId} {k k' : FloatKind} {a b : Nat} {x : LV} (h : abin T op t (.flt k (can k a)) (.flt k' (can k' b)) = some x) (μ : Nat → Pl) (H : Hp) :
    ∃ v n, (binOp op t (.float k a) (.float k' b)).run P w = .ok v (w.drewN n) ∧ BR μ H x v := by
  simp only [abin] at h
  by_cases hk : k = k'
  · subst hk
    simp only [if_true] at h
    cases op <;> simp only [aflt] at h
    case add => cases h; exact ⟨_, _, run_fadd t k a b w, _, rfl, can_fop _ _ _ _ _⟩
    case sub => cases h; exact ⟨_, _, run_fsub t k a b w, _, rfl, can_fop _ _ _ _ _⟩
    case mul => cases h; exact ⟨_, _, run_fmul t k a b w, _, rfl, can_fop _ _ _ _ _⟩
    case quo => cases h; exact ⟨_, _, run_fquo t k a b w, _, rfl, can_fop _ _ _ _ _⟩
    all_goals first
      | (cases h; done)
      | (cases h; refine ⟨_, 0, (by simp [binOp, Op.floatCmp, order_ordC, fEq, fLt, fLe, fGt, fGe, bne] <;> rfl), rfl⟩)
  · rw [if_neg hk] at h; cases h

theorem run_bin_bool {P : Program} {w : World} {T : Tab} (hT : TabOk P T) {op : BinOp} {t : TypeId} {a b : Bool} {x : LV} (h : abin T op t (.bool a) (.bool b) = some x) (μ : Nat → Pl) (H : Hp) :
    ∃ v, (binOp op t (.bool a) (.bool b)).run P w = .ok v w ∧ BR μ H x v := by
  simp only [abin] at h
  split at h
  · rename_i sz by_ zs hTt
    obtain ⟨d, i, z, h1, h2, _⟩ := hT t _ hTt
    have hd : d = .bool := h2
    subst hd
    cases op <;> simp only at h <;> first | cases h | skip
    · exact ⟨_, by simp [binOp, run_equal_bool w t a b h1] <;> rfl, rfl⟩
    · exact ⟨_, by simp [binOp, run_equal_bool w t a b h1] <;> rfl, rfl⟩
  · cases h
end Go.Proofs.Ytpbafacehmjdmaa

namespace Go.Proofs.Ytpbafacehmjdmaa
open Go.RowKit
set_option linter.unusedSimpArgs false
set_option linter.unusedVariables false

theorem signW (k : FloatKind) : k.format.signWeight = 2 ^ (k.format.exponentBits + k.format.fractionBits) := rfl

theorem isNum_neg (k : FloatKind) (b : Nat) : isNum k (Op.negFloat k b) = isNum k b := by
  have h : Op.negFloat k b % k.format.signWeight = b % k.format.signWeight := by
    unfold Op.negFloat
    rw [signW, Nat.xor_mod_two_pow, Nat.mod_self, Nat.xor_zero]
  cases h1 : isNum k b
  · cases h2 : isNum k (Op.negFloat k b)
    · rfl
    · rw [isNum_iff, h, ← isNum_iff, h1] at h2; cases h2
  · rw [isNum_iff] at h1
    rw [isNum_iff, h]; exact h1

theorem can_neg (k : FloatKind) (b : Nat) : can k (Op.negFloat k b) = negC k (can k b) := by
  unfold can negC
  rw [isNum_neg]
  cases isNum k b <;> rfl

theorem run_aun {P : Program} {w : World} {op : UnOp} {x y : LV} {v : Value} {μ : Nat → Pl} {H : Hp} (h : aun op x = some y) (hx : TR μ H x v) :
    ∃ u, (Op.unary op v).run P w = .ok u w ∧ BR μ H y u := by
  cases x <;> simp only [aun] at h <;> try cases h
  case int k n =>
    have hv : v = .int k n := hx
    subst hv
    cases op <;> simp only at h <;> cases h
    exact ⟨_, by simp [Op.unary, Op.intArith] <;> rfl, rfl⟩
  case flt k o =>
    obtain ⟨b, rfl, rfl⟩ : ∃ b, v = .float k b ∧ can k b = o := hx
    cases op <;> simp only at h <;> cases h
    exact ⟨_, by simp [Op.unary] <;> rfl, _, rfl, can_neg k b⟩
  case bool b =>
    have hv : v = .bool b := hx
    subst hv
    cases op <;> simp only at h <;> cases h
    exact ⟨_, by simp [Op.unary] <;> rfl, rfl⟩

theorem can_write (k : FloatKind) (d : Ieee.Datum) (h : d.isNaN = false) : can k (k.format.write d) = some (k.format.write d) := can_num (write_num k d h)

theorem read_isNum {k : FloatKind} {b : Nat} (h : isNum k b = true) : ∀ s f, k.decode b ≠ .nan s f := by
  intro s f e
  unfold isNum at h
  unfold FloatKind.decode at e
  rw [e] at h
  cases h

theorem read_notNum {k : FloatKind} {b : Nat} (h : isNum k b = false) : ∃ s f, k.decode b = .nan s f := by
  unfold isNum at h
  unfold FloatKind.decode
  cases hr : k.format.read b <;> simp [hr, Ieee.Datum.isNaN] at h
  exact ⟨_, _, rfl⟩

theorem isNum_nanConv (k : FloatKind) (b : Nat) (t : Nat) : isNum k ((Question.nanConv k b).cut t) = false := by
  have : ∃ s f, k.format.read ((Question.nanConv k b).cut t) = .nan s f := by
    cases k
    · exact read_nan32 t
    · exact read_nan64 t
  obtain ⟨s, f, e⟩ := this
  simp [isNum, e, Ieee.Datum.isNaN]

theorem can_fcv (s k : FloatKind) (b : Nat) (w : World) (o : Option Nat) (h : cvC s k (can s b) = some o) : can k (fcv s k b w) = o := by
  unfold cvC at h
  unfold fcv
  by_cases e : s = k
  · subst e
    simp only [if_true] at h ⊢
    exact Option.some.inj h
  · simp only [e, if_false] at h ⊢
    by_cases hn : isNum s b = true
    · rw [can_num hn] at h
      simp only at h
      cases hd : s.decode b with
      | nan g f => exact absurd hd (read_isNum hn g f)
      | infinity g =>
        rw [hd] at h
        simp only [Option.some.injEq] at h
        subst h
        exact can_write k _ rfl
      | number g m x =>
        rw [hd] at h
        simp only at h ⊢
        by_cases hi : (k.decode (k.encode (.number g m x))).isInfinity = true
        · rw [if_pos hi] at h; cases h
        · rw [if_neg hi] at h
          rw [if_neg hi]
          simp only [Option.some.injEq] at h
          subst h
          exact can_write k _ rfl
    · have hn' : isNum s b = false := by simpa using hn
      obtain ⟨g, f, hd⟩ := read_notNum hn'
      rw [can_nan hn'] at h
      simp only [Option.some.injEq] at h
      subst h
      rw [hd]
      exact can_nan (isNum_nanConv k b _)

theorem tab_und {P : Program} {T : Tab} (hT : TabOk P T) {t : TypeId} {e : TE} (h : T t = some e) : ∃ d, P.underlying t = some d ∧ e.td.Ok d := by
  obtain ⟨d, i, z, h1, h2, _⟩ := hT t e h
  exact ⟨d, h1, h2⟩
theorem tab_info {P : Program} {T : Tab} (hT : TabOk P T) {t : TypeId} {e : TE} (h : T t = some e) : ∃ i z, P.info? t = some i ∧ i.size = e.sz ∧ i.bytes = e.by_ ∧ i.zero = some z ∧ e.zs.length = e.sz ∧ (∀ μ H, All2 (BR μ H) e.zs z.cells.toList) ∧ ∀ v ∈ z.cells.toList, v.oneCell' = true := by
  obtain ⟨d, i, z, h1, h2, h3, h4⟩ := hT t e h
  exact ⟨i, z, h3, h4⟩

theorem run_und {P : Program} {w : World} {t : TypeId} {d : TypeDesc} (h : P.underlying t = some d) : (underlying t).run P w = .ok d w := run_underlying h w
theorem run_siz {P : Program} {w : World} {T : Tab} (hT : TabOk P T) {t : TypeId} {e : TE} (h : T t = some e) : (sizeOf t).run P w = .ok e.sz w := by
  obtain ⟨i, z, h1, h2, _⟩ := tab_info hT h
  simp [sizeOf, typeInfo, h1, h2]
theorem run_agg {P : Program} {w : World} {T : Tab} (hT : TabOk P T) {t : TypeId} {e : TE} (h : T t = some e) : (isAgg t).run P w = .ok e.td.agg w := by
  obtain ⟨d, h1, h2⟩ := tab_und hT h
  cases ht : e.td <;> rw [ht] at h2 <;> simp only [TD.Ok] at h2
  case other =>
    cases d <;> simp [isAgg, run_underlying h1, TD.agg]
    · exact absurd rfl (h2.2 _ _)
    · exact absurd rfl (h2.1 _)
  case struct fs =>
    obtain ⟨f, rfl, _⟩ := h2
    simp [isAgg, run_underlying h1, TD.agg]
  all_goals (subst h2; simp [isAgg, run_underlying h1, TD.agg])

theorem run_aconv {P : Program} {w : World} {T : Tab} (hT : TabOk P T) {s d : TypeId} {x y : LV} {v : Value} {μ : Nat → Pl} {H : Hp} (h : aconv T s d x = some y) (hx : TR μ H x v) :
    ∃ u n, (convert s d v).run P w = .ok u (w.drewN n) ∧ BR μ H y u := by
  unfold aconv at h
  split at h
  · rename_i es k sz by_ zs hs hd
    obtain ⟨ds, hs1, _⟩ := tab_und hT hs
    obtain ⟨dd, hd1, hd2⟩ := tab_und hT hd
    have hd3 : dd = .int k := hd2
    subst hd3
    split at h
    · rename_i k' n
      cases h
      have hv : v = .int k' n := hx
      subst hv
      refine ⟨_, 0, ?_, rfl⟩
      cases ds <;> simp [convert, run_underlying hs1, run_underlying hd1, Conv.intToInt] <;> rfl
    · rename_i s' b
      obtain ⟨b', rfl, hb⟩ : ∃ b', v = .float s' b' ∧ can s' b' = some b := hx
      obtain ⟨rfl, hn⟩ := can_some hb
      split at h
      · rename_i n hi
        split at h
        · rename_i hr
          cases h
          refine ⟨_, 0, ?_, rfl⟩
          cases ds <;> simp [convert, run_underlying hs1, run_underlying hd1, Conv.floatToInt, hi, hr] <;> rfl
        · cases h
      · cases h
    · cases h
  · rename_i es k sz by_ zs hs hd
    obtain ⟨ds, hs1, _⟩ := tab_und hT hs
    obtain ⟨dd, hd1, hd2⟩ := tab_und hT hd
    have hd3 : dd = .float k := hd2
    subst hd3
    split at h
    · rename_i k' n
      cases h
      have hv : v = .int k' n := hx
      subst hv
      refine ⟨.float k (k.nearest n), 0, ?_, k.nearest n, rfl, can_write k (.number (n < 0) n.natAbs 0) rfl⟩
      cases ds <;> simp [convert, run_underlying hs1, run_underlying hd1, Conv.intToFloat] <;> rfl
    · rename_i s' o
      obtain ⟨b', rfl, rfl⟩ : ∃ b', v = .float s' b' ∧ can s' b' = o := hx
      simp only [Option.map_eq_some_iff] at h
      obtain ⟨o', h1, rfl⟩ := h
      exact ⟨_, _, run_fcv s d s' k b' w (by simp [hs1]) hd1, _, rfl, can_fcv s' k b' w o' h1⟩
    · cases h
  · cases h
end Go.Proofs.Ytpbafacehmjdmaa

namespace Go.Proofs.Ytpbafacehmjdmaa
open Go.RowKit
set_option linter.unusedSimpArgs false
set_option linter.unusedVariables false

theorem ad_add (p : Pl) (off j : Nat) : (ad p off).add j = ad p (off + j) := by
  unfold ad Addr.add
  split
  · rename_i h; subst h; rfl
  · simp [Nat.add_assoc]

theorem cell_shape {μ : Nat → Pl} {H : Hp} {x : LV} {v : Value} (hs : x.isCell = true) (h : BR μ H x v) : v.oneCell' = true ∧ v.cells = #[v] := by
  cases x <;> simp only [LV.isCell, Bool.false_eq_true] at hs
  case bool b => have hv : v = .bool b := h; subst hv; exact ⟨rfl, rfl⟩
  case int k n => have hv : v = .int k n := h; subst hv; exact ⟨rfl, rfl⟩
  case flt k o => obtain ⟨b, rfl, hb⟩ := h; exact ⟨rfl, rfl⟩
  case nils => obtain ⟨a, rfl⟩ := h; exact ⟨rfl, rfl⟩
  case emp => obtain ⟨a, c, rfl⟩ := h; exact ⟨rfl, rfl⟩
  case ptr id ver off => obtain ⟨o, a, h1, h2, rfl, h3⟩ := h; exact ⟨rfl, rfl⟩
  case sl id ver off n cap => obtain ⟨o, a, c, h1, h2, rfl, h3⟩ := h; exact ⟨rfl, rfl⟩

theorem BR_of_TR {μ : Nat → Pl} {H : Hp} {x : LV} {v : Value} (hs : x.isCell = true) (h : TR μ H x v) : BR μ H x v := by
  cases x <;> simp only [LV.isCell, Bool.false_eq_true] at hs <;> exact h

theorem All2.one {μ : Nat → Pl} {H : Hp} : ∀ {xs : List LV} {vs : List Value}, All2 (BR μ H) xs vs → xs.all LV.isCell = true → ∀ v ∈ vs, v.oneCell' = true
  | [], [], _, _ => by intro v hv; cases hv
  | x :: xs, v :: vs, h, hs => by
    simp only [List.all_cons, Bool.and_eq_true] at hs
    intro u hu
    rcases List.mem_cons.1 hu with rfl | hu
    · exact (cell_shape hs.1 h.1).1
    · exact All2.one h.2 hs.2 u hu
  | [], _ :: _, h, _ => h.elim
  | _ :: _, [], h, _ => h.elim

theorem cells_of_cell {μ : Nat → Pl} {H : Hp} {x : LV} {v : Value} (h : TR μ H x v) (hs : (cellsL x).all LV.isCell = true) : All2 (BR μ H) (cellsL x) v.cells.toList := by
  cases x with
  | agg cs => obtain ⟨vs, rfl, h2⟩ := h; exact h2
  | junk => simp [cellsL, LV.isCell] at hs
  | fn f cs => simp [cellsL, LV.isCell] at hs
  | tup cs => simp [cellsL, LV.isCell] at hs
  | bool b => rw [(cell_shape (μ := μ) (H := H) (x := .bool b) rfl h).2]; exact ⟨h, trivial⟩
  | int k n => rw [(cell_shape (μ := μ) (H := H) (x := .int k n) rfl h).2]; exact ⟨h, trivial⟩
  | flt k o => rw [(cell_shape (μ := μ) (H := H) (x := .flt k o) rfl h).2]; exact ⟨h, trivial⟩
  | nils => rw [(cell_shape (μ := μ) (H := H) (x := .nils) rfl h).2]; exact ⟨h, trivial⟩
  | emp => rw [(cell_shape (μ := μ) (H := H) (x := .emp) rfl h).2]; exact ⟨h, trivial⟩
  | ptr a b c => rw [(cell_shape (μ := μ) (H := H) (x := .ptr a b c) rfl h).2]; exact ⟨h, trivial⟩
  | sl a b c d e => rw [(cell_shape (μ := μ) (H := H) (x := .sl a b c d e) rfl h).2]; exact ⟨h, trivial⟩

theorem hget_sound {w0 w : World} {μ : Nat → Pl} {H : Hp} (hR : Rep w0 μ H w) {id ver off : Nat} {c : LV} {v : Value} (h : hget H id ver off = some c) (hv : BR μ H (.ptr id ver off) v) :
    v = .pointer (some (ad (μ id) off)) ∧ ∃ u, w.cell? (ad (μ id) off) = some u ∧ u.oneCell' = true ∧ BR μ H c u := by
  obtain ⟨o, a, h1, h2, h4, h3⟩ := hv
  unfold hget at h
  rw [h1] at h
  simp only at h
  by_cases hver : o.ver = ver
  · rw [if_pos hver] at h
    exact ⟨by rw [h4, h3 hver.symm], hR.cell id o h1 off c h⟩
  · rw [if_neg hver] at h; cases h

/-- Cells of an object, in a row. -/
theorem seg_sound {w0 w : World} {μ : Nat → Pl} {H : Hp} (hR : Rep w0 μ H w) {id : Nat} {o : AO} (h1 : H[id]? = some o) (off n : Nat) (hl : off + n ≤ o.cs.length) :
    ∃ us : List Value, us.length = n ∧ (∀ j u, us[j]? = some u → w.cell? ((ad (μ id) off).add j) = some u) ∧ All2 (BR μ H) ((o.cs.drop off).take n) us ∧ ∀ u ∈ us, u.oneCell' = true := by
  have key : ∀ j, j < n → ∃ u, w.cell? (ad (μ id) (off + j)) = some u ∧ u.oneCell' = true ∧ ∀ c, o.cs[off + j]? = some c → BR μ H c u := by
    intro j hj
    have hlt : off + j < o.cs.length := by omega
    obtain ⟨u, k1, k2, k3⟩ := hR.cell id o h1 (off + j) o.cs[off + j] (by simp [hlt])
    exact ⟨u, k1, k2, fun c hc => by simp [hlt] at hc; subst hc; exact k3⟩
  have hget : ∀ j u, ((List.range n).map fun j => (w.cell? (ad (μ id) (off + j))).getD undef)[j]? = some u → j < n ∧ w.cell? (ad (μ id) (off + j)) = some u ∧ u.oneCell' = true ∧ ∀ c, o.cs[off + j]? = some c → BR μ H c u := by
    intro j u hu
    by_cases hj : j < n
    · obtain ⟨v, k1, k2, k3⟩ := key j hj
      simp [hj, k1] at hu
      subst hu
      exact ⟨hj, k1, k2, k3⟩
    · simp [hj] at hu
  refine ⟨(List.range n).map fun j => (w.cell? (ad (μ id) (off + j))).getD undef, by simp, ?_, ?_, ?_⟩
  · intro j u hu
    rw [ad_add]; exact (hget j u hu).2.1
  · refine All2.of_get (by simp; omega) fun j c u hc hu => ?_
    obtain ⟨hj, _, _, k⟩ := hget j u hu
    refine k c ?_
    rw [List.getElem?_take, if_pos hj, List.getElem?_drop] at hc
    exact hc
  · intro u hu
    obtain ⟨j, hj, e⟩ := List.getElem_of_mem hu
    exact (hget j u (by rw [List.getElem?_eq_getElem hj, e])).2.2.1

theorem hgets_sound {w0 w : World} {μ : Nat → Pl} {H : Hp} (hR : Rep w0 μ H w) {id ver off n : Nat} {cs : List LV} (h : hgets H id ver off n = some cs) :
    ∃ o, H[id]? = some o ∧ o.ver = ver ∧ off + n ≤ o.cs.length ∧ cs.length = n ∧ ∃ us : List Value, us.length = n ∧ (∀ j u, us[j]? = some u → w.cell? ((ad (μ id) off).add j) = some u) ∧ All2 (BR μ H) cs us ∧ ∀ u ∈ us, u.oneCell' = true := by
  unfold hgets at h
  cases h1 : H[id]? with
  | none => rw [h1] at h; cases h
  | some o =>
    rw [h1] at h
    simp only at h
    by_cases hc : o.ver = ver ∧ off + n ≤ o.cs.length
    · rw [if_pos hc] at h
      cases h
      obtain ⟨us, k1, k2, k3, k4⟩ := seg_sound hR h1 off n hc.2
      exact ⟨o, rfl, hc.1, hc.2, by simp; omega, us, k1, k2, k3, k4⟩
    · rw [if_neg hc] at h; cases h

theorem sets_length : ∀ (xs cs : List LV) (off : Nat), (sets cs off xs).length = cs.length
  | [], _, _ => rfl
  | x :: xs, cs, off => by rw [sets, sets_length]; simp

theorem sets_get : ∀ (xs cs : List LV) (off j : Nat), off + xs.length ≤ cs.length → (sets cs off xs)[j]? = if off ≤ j ∧ j < off + xs.length then xs[j - off]? else cs[j]?
  | [], cs, off, j, _ => by rw [sets, if_neg (by simp)]
  | x :: xs, cs, off, j, h => by
    simp only [List.length_cons] at h
    rw [sets, sets_get xs _ _ _ (by simp; omega)]
    by_cases h1 : off + 1 ≤ j ∧ j < off + 1 + xs.length
    · rw [if_pos h1, if_pos (by simp; omega)]
      have e : j - off = (j - (off + 1)) + 1 := by omega
      rw [e, List.getElem?_cons_succ]
    · rw [if_neg h1]
      by_cases h2 : j = off
      · subst h2
        rw [if_pos (by simp), Nat.sub_self, List.getElem?_cons_zero, List.getElem?_set_self (by omega)]
      · rw [if_neg (by simp; omega), List.getElem?_set_ne (by omega)]

theorem splice_get (cur : List Value) (us : List Value) (off j : Nat) (h : off + us.length ≤ cur.length) :
    (cur.take off ++ us ++ cur.drop (off + us.length))[j]? = if off ≤ j ∧ j < off + us.length then us[j - off]? else cur[j]? := by
  have h1 : (cur.take off).length = off := by simp; omega
  by_cases h2 : j < off
  · rw [if_neg (by omega), List.append_assoc, List.getElem?_append_left (by omega), List.getElem?_take, if_pos h2]
  · by_cases h3 : j < off + us.length
    · rw [if_pos (by omega), List.append_assoc, List.getElem?_append_right (by omega), h1, List.getElem?_append_left (by omega)]
    · rw [if_neg (by omega), List.getElem?_append_right (by simp; omega), List.getElem?_drop]
      congr 1
      simp; omega

theorem below_setRow {B : Nat} {a w : World} (h : Below B a w) {g : Nat} (hg : B ≤ g) (cs : Array Value) : Below B a (w.setRow g cs) :=
  h.trans ⟨rfl, rfl, rfl, by simp, fun k hk => setRow_other w g k cs (by omega)⟩

/-- Cells of one object written: in place, its version kept or raised. -/
theorem Rep.write {w0 w : World} {μ : Nat → Pl} {H : Hp} (hR : Rep w0 μ H w) {id : Nat} {o : AO} (h1 : H[id]? = some o) (hro : o.ro = false) (off : Nat) {xs : List LV} {us : List Value}
    (hx : All2 (BR μ H) xs us) (ho : ∀ u ∈ us, u.oneCell' = true) (hl : off + xs.length ≤ o.cs.length) (hz : (μ id).size ≠ 0) {cur : Array Value} (hc : w.heap[(μ id).b]? = some (.cells cur o.el (0, 0))) (hs : cur.size = (μ id).size) :
    Rep w0 μ (H.set id { o with cs := sets o.cs off xs }) (w.setRow (μ id).b (cur.toList.take off ++ us ++ cur.toList.drop (off + us.length)).toArray) ∧
      Ext μ H μ (H.set id { o with cs := sets o.cs off xs }) := by
  have hxl := hx.len
  obtain ⟨b1, b2, b3, _⟩ := hR.real h1 hro hz
  have hcl : off + us.length ≤ cur.toList.length := by have e : cur.toList.length = cur.size := Array.length_toList; omega
  have hext : Ext μ H μ (H.set id { o with cs := sets o.cs off xs }) := by
    intro i q hq
    by_cases e : i = id
    · subst e
      rw [h1] at hq; cases hq
      have : i < H.length := by
        rcases Nat.lt_or_ge i H.length with h | h
        · exact h
        · simp [List.getElem?_eq_none h] at h1
      exact ⟨_, List.getElem?_set_self this, Nat.le_refl _, rfl, rfl, rfl, fun _ => rfl⟩
    · exact ⟨q, by rw [List.getElem?_set_ne (Ne.symm e)]; exact hq, Nat.le_refl _, rfl, rfl, rfl, fun _ => rfl⟩
  have hmu : (fun i => if i = id then μ id else μ i) = μ := by funext i; split <;> simp_all
  have := hR.turn (o' := { o with cs := sets o.cs off xs }) (w' := w.setRow (μ id).b (cur.toList.take off ++ us ++ cur.toList.drop (off + us.length)).toArray) h1 hro hro (Nat.le_refl _) rfl rfl (μ id) (fun _ => rfl)
    (Or.inr (below_setRow hR.bel b1 _)) (fun k _ hne => setRow_other _ _ _ _ (hne.resolve_right hz)) (Or.inl ⟨rfl, rfl⟩) b2 (by simp only [sets_length]; exact b3)
    (Or.inr ⟨_, setRow_heap w _ cur _ _ _ hc, by have e : cur.toList.length = cur.size := Array.length_toList; simp only [List.size_toArray, List.length_append, List.length_take, List.length_drop]; omega, by
      intro j c hj
      simp only at hj
      rw [sets_get _ _ _ _ hl] at hj
      rw [hmu, List.getElem?_toArray, splice_get _ _ _ _ hcl, ← hxl]
      by_cases hin : off ≤ j ∧ j < off + xs.length
      · rw [if_pos hin] at hj ⊢
        obtain ⟨u, k1, k2⟩ := hx.get _ _ hj
        exact ⟨u, k1, ho u (List.mem_of_getElem? k1), BR.ext hext k2⟩
      · rw [if_neg hin] at hj ⊢
        obtain ⟨v, k1, k2, k3⟩ := hR.cell id o h1 j c hj
        refine ⟨v, ?_, k2, BR.ext hext k3⟩
        have e : ad (μ id) j = ⟨(μ id).b, j, none⟩ := by simp [ad, b2]
        rw [e, cell_row hc] at k1
        rw [← k1, Array.getElem?_toList]⟩)
  rw [hmu] at this
  exact this

theorem hput_sound {P : Program} {w0 w : World} {μ : Nat → Pl} {H H' : Hp} (hR : Rep w0 μ H w) {id ver off : Nat} {xs : List LV} {us : List Value} (h : hput H id ver off xs = some H')
    (hx : All2 (BR μ H) xs us) (hs : xs.all LV.isCell = true) : ∃ w', (storeCells (ad (μ id) off) us).run P w = .ok () w' ∧ Rep w0 μ H' w' ∧ Ext μ H μ H' ∧ ∃ o, H[id]? = some o ∧ o.ver = ver := by
  unfold hput at h
  cases h1 : H[id]? with
  | none => rw [h1] at h; cases h
  | some o =>
    rw [h1] at h
    simp only at h
    by_cases hc : o.ver = ver ∧ o.ro = false ∧ off + xs.length ≤ o.cs.length
    · rw [if_pos hc] at h
      cases h
      obtain ⟨hv, hro, hl⟩ := hc
      by_cases hz : (μ id).size = 0
      · have hsz := (hR.rw id o h1 hro).2.1
        have hx0 : xs = [] := List.eq_nil_of_length_eq_zero (by omega)
        subst hx0
        have hu0 : us = [] := List.eq_nil_of_length_eq_zero (by have := hx.len; simpa using this.symm)
        subst hu0
        have e : H.set id { o with cs := sets o.cs off [] } = H := by
          refine List.ext_getElem? fun i => ?_
          by_cases e : i = id
          · subst e
            have : i < H.length := by
              rcases Nat.lt_or_ge i H.length with h | h
              · exact h
              · simp [List.getElem?_eq_none h] at h1
            rw [List.getElem?_set_self this, h1]; rfl
          · rw [List.getElem?_set_ne (Ne.symm e)]
        rw [e]
        exact ⟨w, rfl, hR, Ext.refl _ _, o, rfl, hv⟩
      obtain ⟨b1, b2, b3, cur, b4, b5⟩ := hR.real h1 hro hz
      have ho := hx.one hs
      have hst := run_storeCells_at P (μ id).b off o.el us 0 cur w b4 (by have := hx.len; omega) ho
      obtain ⟨r1, r2⟩ := hR.write h1 hro off hx ho hl hz b4 b5
      refine ⟨_, ?_, r1, r2, o, rfl, hv⟩
      have e : ad (μ id) off = ⟨(μ id).b, off, none⟩ := by simp [ad, b2]
      rw [e]
      simpa using hst
    · rw [if_neg hc] at h; cases h

/-- A new object. -/
theorem Rep.made {w0 w : World} {μ : Nat → Pl} {H : Hp} (hR : Rep w0 μ H w) (n : Nat) (el sz : Nat) {cs : List LV} {cur : Array Value} (hl : cs.length ≤ cur.size)
    (hc : ∀ (j : Nat) (c : LV), cs[j]? = some c → ∃ v, cur[j]? = some v ∧ v.oneCell' = true ∧ BR μ H c v) :
    Rep w0 (fun i => if i = H.length then ⟨w.heap.size, 0, cur.size⟩ else μ i) (H ++ [⟨0, false, el, sz, cs⟩]) ((w.drewN n).alloc (.cells cur el)) ∧
      Ext μ H (fun i => if i = H.length then ⟨w.heap.size, 0, cur.size⟩ else μ i) (H ++ [⟨0, false, el, sz, cs⟩]) :=
  hR.fresh (o := ⟨0, false, el, sz, cs⟩) rfl ⟨w.heap.size, 0, cur.size⟩ ((below_drewN' hR.bel).alloc (by simpa using hR.bel.size) _) (fun k hk => by
      show ((w.drewN n).heap.push _)[k]? = _
      rw [Array.getElem?_push, if_neg (by simp; omega)]; rfl)
    (Nat.le_refl _) rfl hl ⟨cur, by
      show ((w.drewN n).heap.push _)[w.heap.size]? = _
      rw [Array.getElem?_push, if_pos (by simp)], rfl, hc⟩
end Go.Proofs.Ytpbafacehmjdmaa

namespace Go.Proofs.Ytpbafacehmjdmaa
open Go.RowKit
set_option linter.unusedSimpArgs false
set_option linter.unusedVariables false

section
variable {P : Program} {T : Tab} (hT : TabOk P T) {w0 w : World} {μ : Nat → Pl} {H : Hp} (hR : Rep w0 μ H w)

theorem field_at {fields : Array Field} {fs : List (Nat × TypeId)} (h : fields.toList.map (fun f => (f.offset, f.type)) = fs) {i fo ft : Nat} (hf : fs[i]? = some (fo, ft)) :
    ∃ fl, fields[i]? = some fl ∧ fl.offset = fo ∧ fl.type = ft := by
  subst h
  rw [List.getElem?_map, Array.getElem?_toList] at hf
  cases hx : fields[i]? with
  | none => rw [hx] at hf; cases hf
  | some fl =>
    rw [hx] at hf
    simp only [Option.map_some, Option.some.injEq, Prod.mk.injEq] at hf
    exact ⟨fl, rfl, hf.1, hf.2⟩

include hT

theorem run_fieldAt {s : TypeId} {e te : TE} {fs : List (Nat × TypeId)} (hs : T s = some e) (htd : e.td = .struct fs) {i fo ft : Nat} (hf : fs[i]? = some (fo, ft)) (ht : T ft = some te) (hz : te.sz ≠ 0) (a : Addr) :
    (Instr.fieldAt s (.pointer (some a)) i).run P w = .ok (.pointer (some (a.add fo))) w := by
  obtain ⟨d, h1, h2⟩ := tab_und hT hs
  rw [htd] at h2
  obtain ⟨fields, rfl, h3⟩ := h2
  obtain ⟨fl, g1, g2, g3⟩ := field_at h3 hf
  subst g2
  subst g3
  have hsz := run_siz (w := w) hT ht
  simp [Instr.fieldAt, run_underlying h1, g1, Instr.sureAddr, fieldPlace, hsz, hz]

theorem run_indexAt_slice {t e : TypeId} {et te : TE} (hs : T t = some et) (htd : et.td = .slice e) (ht : T e = some te) (a : Addr) (n c : Nat) (k : IntKind) (i : Int) (h0 : 0 ≤ i) (hn : i < n) :
    (Instr.indexAt t (.slice (some a) n c) (.int k i)).run P w = .ok (.pointer (some (a.add (i.toNat * te.sz)))) w := by
  obtain ⟨d, h1, h2⟩ := tab_und hT hs
  rw [htd] at h2
  have hd : d = .slice e := h2
  subst hd
  have hsz := run_siz (w := w) hT ht
  simp [Instr.indexAt, asIntOf, run_underlying h1, hsz, h0, hn]

theorem run_indexAt_arr {t e : TypeId} {m : Nat} {et te : TE} (hs : T t = some et) (htd : et.td = .arr m e) (ht : T e = some te) (a : Addr) (k : IntKind) (i : Int) (h0 : 0 ≤ i) (hn : i < m) :
    (Instr.indexAt t (.pointer (some a)) (.int k i)).run P w = .ok (.pointer (some (a.add (i.toNat * te.sz)))) w := by
  obtain ⟨d, h1, h2⟩ := tab_und hT hs
  rw [htd] at h2
  have hd : d = .array m e := h2
  subst hd
  have hsz := run_siz (w := w) hT ht
  simp [Instr.indexAt, asIntOf, run_underlying h1, hsz, h0, hn, Instr.sureAddr]

theorem run_part {t : TypeId} {cs : List LV} {off : Nat} {x : LV} (h : partL T t cs off = some x) {vs : Array Value} (hv : All2 (BR μ H) cs vs.toList) :
    ∃ v, (part t vs off).run P w = .ok v w ∧ TR μ H x v := by
  unfold partL at h
  split at h
  · rename_i e ht
    have hsz := run_siz (w := w) hT ht
    have hag := run_agg (w := w) hT ht
    by_cases ha : e.td.agg = true
    · rw [if_pos ha] at h
      split at h
      · rename_i hl
        cases h
        refine ⟨_, by simp [part, hag, ha, hsz] <;> rfl, _, rfl, ?_⟩
        refine All2.of_get ?_ ?_
        · have := hv.len; simp at this ⊢; omega
        · intro j a b h1 h2
          rw [List.getElem?_take, List.getElem?_drop] at h1
          split at h1
          · rename_i hj
            obtain ⟨u, k1, k2⟩ := hv.get _ _ h1
            rw [Array.getElem?_toList, Array.getElem?_extract] at h2
            split at h2
            · rw [Array.getElem?_toList] at k1
              rw [k1] at h2; cases h2; exact k2
            · cases h2
          · cases h1
      · cases h
    · have ha' : e.td.agg = false := by simpa using ha
      rw [if_neg ha] at h
      obtain ⟨u, k1, k2⟩ := hv.get _ _ h
      rw [Array.getElem?_toList] at k1
      exact ⟨u, by simp [part, hag, ha', k1], TR.of_BR k2⟩
  · cases h

theorem run_field {s : TypeId} {e : TE} {fs : List (Nat × TypeId)} (hs : T s = some e) (htd : e.td = .struct fs) {i fo ft : Nat} (hf : fs[i]? = some (fo, ft)) {cs : List LV} {x : LV} (h : partL T ft cs fo = some x)
    {vs : Array Value} (hv : All2 (BR μ H) cs vs.toList) : ∃ v, (Instr.field s (.agg vs) i).run P w = .ok v w ∧ TR μ H x v := by
  obtain ⟨d, h1, h2⟩ := tab_und hT hs
  rw [htd] at h2
  obtain ⟨fields, rfl, h3⟩ := h2
  obtain ⟨fl, g1, g2, g3⟩ := field_at h3 hf
  subst g2
  subst g3
  obtain ⟨v, k1, k2⟩ := run_part hT (w := w) h hv
  exact ⟨v, by simp [Instr.field, run_underlying h1, g1, asAgg, k1], k2⟩

theorem run_index_arr {t e : TypeId} {m : Nat} {et te : TE} (hs : T t = some et) (htd : et.td = .arr m e) (ht : T e = some te) (k : IntKind) (i : Int) (h0 : 0 ≤ i) (hn : i < m) {cs : List LV} {x : LV} (h : partL T e cs (i.toNat * te.sz) = some x)
    {vs : Array Value} (hv : All2 (BR μ H) cs vs.toList) : ∃ v, (Instr.index t (.agg vs) (.int k i)).run P w = .ok v w ∧ TR μ H x v := by
  obtain ⟨d, h1, h2⟩ := tab_und hT hs
  rw [htd] at h2
  have hd : d = .array m e := h2
  subst hd
  have hsz := run_siz (w := w) hT ht
  obtain ⟨v, k1, k2⟩ := run_part hT (w := w) h hv
  exact ⟨v, by simp [Instr.index, asIntOf, run_underlying h1, hsz, h0, hn, k1], k2⟩

include hR

theorem run_loadAt {t : TypeId} {te : TE} (ht : T t = some te) {id ver off : Nat} {v : Value} (hv : BR μ H (.ptr id ver off) v) {x : LV} {H' : Hp}
    (h : (if te.td.agg then (hgets H id ver off te.sz).map fun cs => (LV.agg cs, H) else (hget H id ver off).map (·, H)) = some (x, H')) :
    H' = H ∧ ∃ u, (Instr.loadAt t v).run P w = .ok u w ∧ TR μ H x u := by
  have hag := run_agg (w := w) hT ht
  have hsz := run_siz (w := w) hT ht
  by_cases ha : te.td.agg = true
  · rw [if_pos ha] at h
    simp only [Option.map_eq_some_iff, Prod.mk.injEq] at h
    obtain ⟨cs, h1, rfl, rfl⟩ := h
    obtain ⟨o, g1, g2, g3, g4, us, g5, g6, g7, g8⟩ := hgets_sound hR h1
    obtain ⟨o', a, k1, k2, rfl, k3⟩ := hv
    rw [g1] at k1; cases k1
    have ha' := k3 g2.symm
    subst ha'
    refine ⟨rfl, .agg us.toArray, ?_, us.toArray, rfl, by simpa using g7⟩
    have hl := run_loadCells_list (P := P) w (ad (μ id) off) us g6
    rw [g5] at hl
    simp [Instr.loadAt, Instr.sureAddr, loadVar, hag, ha, hsz, hl]
  · have ha' : te.td.agg = false := by simpa using ha
    rw [if_neg ha] at h
    simp only [Option.map_eq_some_iff, Prod.mk.injEq] at h
    obtain ⟨c, h1, rfl, rfl⟩ := h
    obtain ⟨rfl, u, g1, g2, g3⟩ := hget_sound hR h1 hv
    exact ⟨rfl, u, by simp [Instr.loadAt, Instr.sureAddr, loadVar, hag, ha', g1], TR.of_BR g3⟩

theorem run_storeAt {t : TypeId} {te : TE} (ht : T t = some te) {id ver off : Nat} {v u : Value} (hv : BR μ H (.ptr id ver off) v) {x : LV} (hx : TR μ H x u) {H' : Hp}
    (hl : (cellsL x).length = te.sz) (hs : (cellsL x).all LV.isCell = true) (h : hput H id ver off (cellsL x) = some H') :
    ∃ w', (Instr.storeAt t v u).run P w = .ok () w' ∧ Rep w0 μ H' w' ∧ Ext μ H μ H' := by
  have hsz := run_siz (w := w) hT ht
  have hc := cells_of_cell hx hs
  obtain ⟨w', h1, h2, h3, o, g1, g2⟩ := hput_sound (P := P) hR h hc hs
  obtain ⟨o', a, k1, k2, rfl, k3⟩ := hv
  rw [g1] at k1; cases k1
  have ha' := k3 g2.symm
  subst ha'
  have hlen : u.cells.size = te.sz := by have := hc.len; have e : u.cells.toList.length = u.cells.size := Array.length_toList; omega
  exact ⟨w', by simp [Instr.storeAt, Instr.sureAddr, storeVar, hsz, hlen, h1], h2, h3⟩

omit hT hR in
/-- A pointer to a new object. -/
theorem BR_newptr (p : Pl) (hoff : p.off = 0) (o : AO) (h0 : o.ver = 0) : BR (fun i => if i = H.length then p else μ i) (H ++ [o]) (.ptr H.length 0 0) (.pointer (some ⟨p.b, 0, none⟩)) :=
  ⟨o, _, by simp, Nat.zero_le _, rfl, fun _ => by simp [ad, hoff]⟩

theorem run_newVar_zero {t : TypeId} {te : TE} (ht : T t = some te) :
    ∃ w' μ', (Instr.alloc t true (.tuple #[])).run P w = .ok (.pointer (some ⟨w.heap.size, 0, none⟩)) w' ∧ Rep w0 μ' (H ++ [⟨0, false, t, te.sz, te.zs⟩]) w' ∧ Ext μ H μ' (H ++ [⟨0, false, t, te.sz, te.zs⟩]) ∧
      BR μ' (H ++ [⟨0, false, t, te.sz, te.zs⟩]) (.ptr H.length 0 0) (.pointer (some ⟨w.heap.size, 0, none⟩)) := by
  obtain ⟨i, z, h1, h2, h3, h4, h5, h6, h7⟩ := tab_info hT ht
  have hl := (h6 μ H).len
  rw [Array.length_toList] at hl
  obtain ⟨r1, r2⟩ := hR.made 0 t te.sz (cs := te.zs) (cur := z.cells) (by omega) (fun j c hc => by
    obtain ⟨v, k1, k2⟩ := (h6 μ H).get j c hc
    exact ⟨v, by rw [← Array.getElem?_toList]; exact k1, h7 v (List.mem_of_getElem? k1), k2⟩)
  refine ⟨_, _, ?_, r1, r2, BR_newptr _ rfl _ rfl⟩
  simp [Instr.alloc, zeroValue, typeInfo, h1, h4, newVar, newRow]
  rfl

omit hT in
theorem run_box {t : TypeId} {x : LV} {v : Value} (hx : TR μ H x v) (hs : (cellsL x).all LV.isCell = true) :
    ∃ w' μ', (Instr.box t v).run P w = .ok (.pointer (some ⟨w.heap.size, 0, none⟩)) w' ∧ Rep w0 μ' (H ++ [⟨0, false, t, (cellsL x).length, cellsL x⟩]) w' ∧ Ext μ H μ' (H ++ [⟨0, false, t, (cellsL x).length, cellsL x⟩]) ∧
      BR μ' (H ++ [⟨0, false, t, (cellsL x).length, cellsL x⟩]) (.ptr H.length 0 0) (.pointer (some ⟨w.heap.size, 0, none⟩)) := by
  have hc := cells_of_cell hx hs
  have hl := hc.len
  have hl2 : v.cells.toList.length = v.cells.size := Array.length_toList
  obtain ⟨r1, r2⟩ := hR.made 0 t (cellsL x).length (cs := cellsL x) (cur := v.cells) (by omega) (fun j c hj => by
    obtain ⟨v, k1, k2⟩ := hc.get j c hj
    exact ⟨v, by rw [← Array.getElem?_toList]; exact k1, hc.one hs v (List.mem_of_getElem? k1), k2⟩)
  exact ⟨_, _, by simp [Instr.box, newVar, newRow] <;> rfl, r1, r2, BR_newptr _ rfl _ rfl⟩
end
end Go.Proofs.Ytpbafacehmjdmaa

namespace Go.Proofs.Ytpbafacehmjdmaa
open Go.RowKit
set_option linter.unusedSimpArgs false
set_option linter.unusedVariables false
set_option linter.unusedSectionVars false

theorem zeros_get (zs : List LV) (n j : Nat) : (zeros zs n)[j]? = if j < n * zs.length then zs[j % zs.length]? else none := by
  induction n generalizing j with
  | zero => simp [zeros]
  | succ n ih =>
    have e : zeros zs (n + 1) = zs ++ zeros zs n := by simp [zeros, List.replicate_succ]
    rw [e, List.getElem?_append]
    by_cases h : j < zs.length
    · rw [if_pos h, if_pos (by rw [Nat.succ_mul]; omega), Nat.mod_eq_of_lt h]
    · rw [if_neg h, ih, Nat.succ_mul]
      have h2 : j % zs.length = (j - zs.length) % zs.length := by
        conv => lhs; rw [show j = (j - zs.length) + zs.length by omega, Nat.add_mod_right]
      rw [h2]
      by_cases h3 : j - zs.length < n * zs.length
      · rw [if_pos h3, if_pos (by omega)]
      · rw [if_neg h3, if_neg (by omega)]

theorem zeros_length (zs : List LV) (n : Nat) : (zeros zs n).length = n * zs.length := by simp [zeros]

theorem made_get (z : Array Value) (n j : Nat) (hj : j < n) : ((Array.range n).map (z[· % z.size]!))[j]? = some z[j % z.size]! := by
  rw [Array.getElem?_map]
  simp [hj]

theorem zeros_rel {μ : Nat → Pl} {H : Hp} {zs : List LV} {z : Array Value} (h : All2 (BR μ H) zs z.toList) (ho : ∀ v ∈ z.toList, v.oneCell' = true) (n : Nat) :
    ∀ (j : Nat) (c : LV), (zeros zs n)[j]? = some c → ∃ v, ((Array.range (n * z.size)).map (z[· % z.size]!))[j]? = some v ∧ v.oneCell' = true ∧ BR μ H c v := by
  intro j c hj
  have hl := h.len
  have hl2 : z.toList.length = z.size := Array.length_toList
  rw [zeros_get] at hj
  split at hj
  · rename_i hlt
    rw [made_get z _ j (by rw [← hl2, ← hl]; exact hlt)]
    obtain ⟨v, k1, k2⟩ := h.get _ _ hj
    have e : z[j % z.size]! = v := by
      rw [← hl2, ← hl]
      rw [Array.getElem?_toList] at k1
      obtain ⟨hlt, e⟩ := Array.getElem?_eq_some_iff.1 k1
      rw [getElem!_pos z _ hlt, e]
    exact ⟨v, by rw [e], ho v (List.mem_of_getElem? k1), k2⟩
  · cases hj

section
variable {P : Program} {T : Tab} (hT : TabOk P T) {w0 w : World} {μ : Nat → Pl} {H : Hp} (hR : Rep w0 μ H w)

theorem run_sliceBound_in (k : IntKind) (i : Int) (y : Nat) (code : BoundsCode) (h0 : 0 ≤ i) (h1 : i ≤ y) : (Instr.sliceBound (.int k i) y code).run P w = .ok i.toNat w := by
  simp [Instr.sliceBound, asIntOf, h0, h1]

theorem asliceB_spec {n d m : Nat} {x : Option LV} {v : Option Value} (h : asliceB n x d = some m) (hx : match x, v with | none, none => True | some a, some b => TR μ H a b | _, _ => False) :
    (x = none ∧ v = none ∧ m = d) ∨ ∃ k i, x = some (.int k i) ∧ v = some (.int k i) ∧ 0 ≤ i ∧ i ≤ n ∧ m = i.toNat := by
  cases x with
  | none =>
    cases v with
    | none => simp only [asliceB, Option.some.injEq] at h; exact Or.inl ⟨rfl, rfl, h.symm⟩
    | some b => exact hx.elim
  | some a =>
    cases v with
    | none => exact hx.elim
    | some b =>
      cases a <;> simp only [asliceB] at h <;> try cases h
      rename_i k i
      split at h
      · rename_i hc
        cases h
        have hv : b = .int k i := hx
        subst hv
        exact Or.inr ⟨k, i, rfl, rfl, hc.1, hc.2, rfl⟩
      · cases h

def ORel (μ : Nat → Pl) (H : Hp) : Option LV → Option Value → Prop
  | none, none => True
  | some a, some b => TR μ H a b
  | _, _ => False

theorem run_sliceBounds {r c n : Nat} (hrc : r ≤ c) (hnr : n ≤ c) {lo hi mx : Option LV} {vlo vhi vmx : Option Value} (h1 : ORel μ H lo vlo) (h2 : ORel μ H hi vhi) (h3 : ORel μ H mx vmx) {m h l : Nat}
    (e1 : asliceB r mx r = some m) (e2 : asliceB m hi n = some h) (e3 : asliceB h lo 0 = some l) (e4 : (mx.isSome && hi.isNone) = false) :
    ∃ m', (Instr.sliceBounds true n c vlo vhi vmx).run P w = .ok (l, h, m') w ∧ l ≤ h ∧ h ≤ m' ∧ m' ≤ c ∧ (mx.isSome = true → m' = m) ∧ (mx.isSome = false → m' = c) := by
  rcases asliceB_spec (μ := μ) (H := H) (v := vmx) e1 (by cases mx <;> cases vmx <;> exact h3) with ⟨rfl, rfl, rfl⟩ | ⟨k1, i1, rfl, rfl, g1, g2, rfl⟩
  · rcases asliceB_spec (μ := μ) (H := H) (v := vhi) e2 (by cases hi <;> cases vhi <;> exact h2) with ⟨rfl, rfl, rfl⟩ | ⟨k2, i2, rfl, rfl, g3, g4, rfl⟩
    · rcases asliceB_spec (μ := μ) (H := H) (v := vlo) e3 (by cases lo <;> cases vlo <;> exact h1) with ⟨rfl, rfl, rfl⟩ | ⟨k3, i3, rfl, rfl, g5, g6, rfl⟩
      · exact ⟨c, by simp [Instr.sliceBounds], by omega, hnr, Nat.le_refl _, by simp, by simp⟩
      · have b3 := fun code => run_sliceBound_in (P := P) (w := w) k3 i3 _ code g5 g6
        exact ⟨c, by simp [Instr.sliceBounds, b3], by omega, hnr, Nat.le_refl _, by simp, by simp⟩
    · have g4' : i2 ≤ (c : Int) := by omega
      rcases asliceB_spec (μ := μ) (H := H) (v := vlo) e3 (by cases lo <;> cases vlo <;> exact h1) with ⟨rfl, rfl, rfl⟩ | ⟨k3, i3, rfl, rfl, g5, g6, rfl⟩
      · have b2 := fun code => run_sliceBound_in (P := P) (w := w) k2 i2 _ code g3 g4'
        exact ⟨c, by simp [Instr.sliceBounds, b2], by omega, by omega, Nat.le_refl _, by simp, by simp⟩
      · have b2 := fun code => run_sliceBound_in (P := P) (w := w) k2 i2 _ code g3 g4'
        have b3 := fun code => run_sliceBound_in (P := P) (w := w) k3 i3 _ code g5 g6
        exact ⟨c, by simp [Instr.sliceBounds, b2, b3], by omega, by omega, Nat.le_refl _, by simp, by simp⟩
  · have g2' : i1 ≤ (c : Int) := by omega
    rcases asliceB_spec (μ := μ) (H := H) (v := vhi) e2 (by cases hi <;> cases vhi <;> exact h2) with ⟨rfl, rfl, rfl⟩ | ⟨k2, i2, rfl, rfl, g3, g4, rfl⟩
    · simp at e4
    · rcases asliceB_spec (μ := μ) (H := H) (v := vlo) e3 (by cases lo <;> cases vlo <;> exact h1) with ⟨rfl, rfl, rfl⟩ | ⟨k3, i3, rfl, rfl, g5, g6, rfl⟩
      · have b1 := fun code => run_sliceBound_in (P := P) (w := w) k1 i1 _ code g1 g2'
        have b2 := fun code => run_sliceBound_in (P := P) (w := w) k2 i2 _ code g3 g4
        exact ⟨i1.toNat, by simp [Instr.sliceBounds, b1, b2], by omega, by omega, by omega, by simp, by simp⟩
      · have b1 := fun code => run_sliceBound_in (P := P) (w := w) k1 i1 _ code g1 g2'
        have b2 := fun code => run_sliceBound_in (P := P) (w := w) k2 i2 _ code g3 g4
        have b3 := fun code => run_sliceBound_in (P := P) (w := w) k3 i3 _ code g5 g6
        exact ⟨i1.toNat, by simp [Instr.sliceBounds, b1, b2, b3], by omega, by omega, by omega, by simp, by simp⟩

include hT

theorem run_slc {t e : TypeId} {et te : TE} (hs : T t = some et) (htd : et.td = .slice e) (ht : T e = some te) (a : Option Addr) (n c : Nat) {vlo vhi vmx : Option Value} {l h m : Nat}
    (hb : (Instr.sliceBounds true n c vlo vhi vmx).run P w = .ok (l, h, m) w) :
    (Instr.sliceAt t (.slice a n c) vlo vhi vmx).run P w = .ok (.slice (if m = l then a else a.map (·.add (l * te.sz))) (h - l) (m - l)) w := by
  obtain ⟨d, h1, h2⟩ := tab_und hT hs
  rw [htd] at h2
  have hd : d = .slice e := h2
  subst hd
  have hsz := run_siz (w := w) hT ht
  simp [Instr.sliceAt, Instr.slice, run_underlying h1, hsz, hb]

include hR

theorem aslice_sound {t : TypeId} {x y : LV} {lo hi mx : Option LV} {v : Value} {vlo vhi vmx : Option Value} (h : aslice T H t x lo hi mx = some y) (hv : TR μ H x v) (h1 : ORel μ H lo vlo) (h2 : ORel μ H hi vhi) (h3 : ORel μ H mx vmx) :
    ∃ u, (Instr.sliceAt t v vlo vhi vmx).run P w = .ok u w ∧ BR μ H y u := by
  unfold aslice at h
  split at h
  · rename_i e sz by_ zs hs
    split at h
    · rename_i te ht
      unfold asliceS at h
      split at h
      · rename_i id ver off n cap
        split at h
        · cases h
        · rename_i o ho
          by_cases hver : o.ver ≠ ver
          · rw [if_pos hver] at h; cases h
          rw [if_neg hver] at h
          by_cases hsz : o.sz ≠ te.sz
          · rw [if_pos hsz] at h; cases h
          rw [if_neg hsz] at h
          have hver' : ver = o.ver := by simpa using Eq.symm (Decidable.not_not.1 hver)
          have hsz' : o.sz = te.sz := Decidable.not_not.1 hsz
          split at h
          · cases h
          rename_i m em
          split at h
          · cases h
          rename_i hh eh
          split at h
          · cases h
          rename_i l el
          by_cases hbad : (mx.isSome && hi.isNone) = true
          · rw [if_pos hbad] at h; cases h
          rw [if_neg hbad] at h
          have hbad' : (mx.isSome && hi.isNone) = false := (Bool.not_eq_true _).mp hbad
          obtain ⟨o', a, c, k1, k2, rfl, k3⟩ := (hv : BR μ H (.sl id ver off n cap) v)
          rw [ho] at k1; cases k1
          obtain ⟨g1, g2, g3, g4⟩ := k3 hver'
          have hroom : roomOf o off n cap ≤ c := by
            unfold roomOf
            cases cap with
            | some k => simp only; have := g3 k rfl; omega
            | none =>
              simp only
              split
              · rename_i hc
                have hsize := (g4 hc.1).1 rfl
                obtain ⟨_, b3, _⟩ := hR.rw id o ho hc.1
                refine Nat.max_le.2 ⟨g1, ?_⟩
                have : (o.cs.length - off) ≤ c * o.sz := by omega
                calc (o.cs.length - off) / o.sz ≤ (c * o.sz) / o.sz := Nat.div_le_div_right this
                  _ = c := Nat.mul_div_cancel _ hc.2.2
              · exact g1
          obtain ⟨m', q1, q2, q3, q4, q5, q6⟩ := run_sliceBounds (P := P) (w := w) hroom g1 h1 h2 h3 em eh el hbad'
          refine ⟨_, run_slc hT hs rfl ht a n c q1, ?_⟩
          cases h
          have hdist : l * te.sz + (m' - l) * te.sz = m' * te.sz := by rw [← Nat.add_mul]; congr 1; omega
          have hmc : m' * te.sz ≤ c * te.sz := Nat.mul_le_mul_right _ q4
          refine ⟨o, (if m' = l then a else a.map (·.add (l * te.sz))), m' - l, ho, k2, rfl, fun _ => ⟨by omega, fun hpos => ?_, fun k hk => ?_, fun hro => ⟨fun hn => ?_, ?_⟩⟩⟩
          · have hne : ¬ m' = l := by omega
            rw [if_neg hne, g2 (by omega), Option.map_some, ad_add]
          · cases hm : mx.isSome
            · rw [hm] at hk
              simp only [Bool.false_eq_true, if_false] at hk
              cases cap with
              | none => cases hk
              | some k0 =>
                simp only [Option.map_some, Option.some.injEq] at hk
                have := g3 k0 rfl
                have := q6 hm
                omega
            · rw [hm] at hk
              simp only [if_true, Option.some.injEq] at hk
              have := q5 hm
              omega
          · cases hm : mx.isSome
            · rw [hm] at hn
              simp only [Bool.false_eq_true, if_false] at hn
              cases cap with
              | some k0 => cases hn
              | none =>
                have e1 := (g4 hro).1 rfl
                have e2 := q6 hm
                rw [hsz'] at e1 ⊢
                subst e2
                omega
            · rw [hm] at hn
              simp at hn
          · have e1 := (g4 hro).2
            rw [hsz'] at e1 ⊢
            omega
      · obtain ⟨a, rfl⟩ := (hv : BR μ H .nils v)
        split at h
        · rename_i m hh l em eh el
          by_cases hbad : (mx.isSome && hi.isNone) = true
          · rw [if_pos hbad] at h; cases h
          rw [if_neg hbad] at h
          cases h
          have m0 : m = 0 := by
            rcases asliceB_spec (μ := μ) (H := H) (v := vmx) em (by cases mx <;> cases vmx <;> exact h3) with ⟨_, _, rfl⟩ | ⟨_, i, _, _, _, _, rfl⟩
            · rfl
            · omega
          have h0 : hh = 0 := by
            rcases asliceB_spec (μ := μ) (H := H) (v := vhi) eh (by cases hi <;> cases vhi <;> exact h2) with ⟨_, _, rfl⟩ | ⟨_, i, _, _, _, _, rfl⟩
            · rfl
            · omega
          have l0 : l = 0 := by
            rcases asliceB_spec (μ := μ) (H := H) (v := vlo) el (by cases lo <;> cases vlo <;> exact h1) with ⟨_, _, rfl⟩ | ⟨_, i, _, _, _, _, rfl⟩
            · rfl
            · omega
          subst m0
          subst h0
          subst l0
          obtain ⟨m', q1, q2, q3, q4, q5, q6⟩ := run_sliceBounds (P := P) (w := w) (r := 0) (c := 0) (n := 0) (Nat.le_refl _) (Nat.le_refl _) h1 h2 h3 em eh el ((Bool.not_eq_true _).mp hbad)
          refine ⟨_, run_slc hT hs rfl ht a 0 0 q1, ?_⟩
          have e1 : m' = 0 := by omega
          subst e1
          exact ⟨_, rfl⟩
        · cases h
      · obtain ⟨a, c, rfl⟩ := (hv : BR μ H .emp v)
        split at h
        · rename_i m hh l em eh el
          by_cases hbad : (mx.isSome && hi.isNone) = true
          · rw [if_pos hbad] at h; cases h
          rw [if_neg hbad] at h
          cases h
          have m0 : m = 0 := by
            rcases asliceB_spec (μ := μ) (H := H) (v := vmx) em (by cases mx <;> cases vmx <;> exact h3) with ⟨_, _, rfl⟩ | ⟨_, i, _, _, _, _, rfl⟩
            · rfl
            · omega
          have h0 : hh = 0 := by
            rcases asliceB_spec (μ := μ) (H := H) (v := vhi) eh (by cases hi <;> cases vhi <;> exact h2) with ⟨_, _, rfl⟩ | ⟨_, i, _, _, _, _, rfl⟩
            · rfl
            · omega
          have l0 : l = 0 := by
            rcases asliceB_spec (μ := μ) (H := H) (v := vlo) el (by cases lo <;> cases vlo <;> exact h1) with ⟨_, _, rfl⟩ | ⟨_, i, _, _, _, _, rfl⟩
            · rfl
            · omega
          subst m0
          subst h0
          subst l0
          obtain ⟨m', q1, q2, q3, q4, q5, q6⟩ := run_sliceBounds (P := P) (w := w) (r := 0) (c := c) (n := 0) (Nat.zero_le _) (Nat.zero_le _) h1 h2 h3 em eh el ((Bool.not_eq_true _).mp hbad)
          refine ⟨_, run_slc hT hs rfl ht a 0 c q1, ?_⟩
          cases hm : mx.isSome
          · exact ⟨_, _, rfl⟩
          · have := q5 hm
            subst this
            exact ⟨_, rfl⟩
        · cases h
      · cases h
    · cases h
  · cases h
end
end Go.Proofs.Ytpbafacehmjdmaa

namespace Go.Proofs.Ytpbafacehmjdmaa
open Go.RowKit
set_option linter.unusedSimpArgs false
set_option linter.unusedVariables false
set_option linter.unusedSectionVars false

theorem All2.take {α β : Type} {R : α → β → Prop} : ∀ {us : List α} {bs : List β} (n : Nat), All2 R us bs → All2 R (us.take n) (bs.take n)
  | [], [], n, _ => by simp [All2]
  | _ :: _, _ :: _, 0, _ => trivial
  | _ :: _, _ :: _, n + 1, h => ⟨h.1, All2.take n h.2⟩
  | [], _ :: _, _, h => h.elim
  | _ :: _, [], _, h => h.elim

section
variable {P : Program} {T : Tab} (hT : TabOk P T) {w0 w : World} {μ : Nat → Pl} {H : Hp} (hR : Rep w0 μ H w)

/-- Where a slice's cells lie: any address serves for no cell. -/
theorem sl_cells (hR : Rep w0 μ H w) {id ver off n : Nat} {cap : Option Nat} {o : AO} {a : Option Addr} {c : Nat} (ho : H[id]? = some o) (h : ver = o.ver → n ≤ c ∧ (0 < c → a = some (ad (μ id) off)) ∧ (∀ k, cap = some k → c = k) ∧ (o.ro = false → (cap = none → off + c * o.sz = (μ id).size) ∧ off + c * o.sz ≤ (μ id).size))
    {sz : Nat} {cs : List LV} (hg : hgets H id ver off (n * sz) = some cs) :
    o.ver = ver ∧ cs.length = n * sz ∧ ∃ us : List Value, us.length = n * sz ∧ (∀ j u, us[j]? = some u → ∃ b, a = some b ∧ w.cell? (b.add j) = some u) ∧ All2 (BR μ H) cs us ∧ ∀ u ∈ us, u.oneCell' = true := by
  obtain ⟨o', g1, g2, g3, g4, us, g5, g6, g7, g8⟩ := hgets_sound hR hg
  rw [ho] at g1; cases g1
  refine ⟨g2, g4, us, g5, ?_, g7, g8⟩
  intro j u hu
  have hj : j < n * sz := by
    rcases Nat.lt_or_ge j us.length with h | h
    · omega
    · simp [List.getElem?_eq_none h] at hu
  obtain ⟨k1, k2, _⟩ := h g2.symm
  have hn : 0 < n := by
    rcases Nat.eq_zero_or_pos n with h | h
    · subst h; simp at hj
    · exact h
  exact ⟨_, k2 (by omega), g6 j u hu⟩

/-- The source of an append or a copy. -/
theorem src_sound (hR : Rep w0 μ H w) {sz m : Nat} {y : LV} {v : Value} {news : List LV} (hv : TR μ H y v) (hl : lenOf y = some m) (hc : cellsOf H sz y = some news) (k : Nat) (hk : k ≤ m) :
    news.length = m * sz ∧ ∃ us : List Value, us.length = k * sz ∧ (Builtin.firstCells sz k v).run P w = .ok us.toArray w ∧ (Builtin.lenOf v).run P w = .ok m w ∧ All2 (BR μ H) (news.take (k * sz)) us ∧ ∀ u ∈ us, u.oneCell' = true := by
  cases y <;> simp only [lenOf, cellsOf] at hl hc <;> try cases hl
  case nils =>
    cases hc
    obtain ⟨a, rfl⟩ := (hv : BR μ H .nils v)
    have hk0 : k = 0 := by omega
    subst hk0
    refine ⟨by simp, [], by simp, ?_, by simp [Builtin.lenOf], by simp [All2], by simp⟩
    cases a <;> simp [Builtin.firstCells, loadCells, loadCellsFrom]
  case emp =>
    cases hc
    obtain ⟨a, c, rfl⟩ := (hv : BR μ H .emp v)
    have hk0 : k = 0 := by omega
    subst hk0
    refine ⟨by simp, [], by simp, ?_, by simp [Builtin.lenOf], by simp [All2], by simp⟩
    cases a <;> simp [Builtin.firstCells, loadCells, loadCellsFrom]
  case sl id ver off cap =>
    obtain ⟨o, a, c, h1, h2, rfl, h3⟩ := (hv : BR μ H (.sl id ver off m cap) v)
    obtain ⟨g1, g2, us, g3, g4, g5, g6⟩ := sl_cells hR h1 h3 hc
    have hkn : k * sz ≤ m * sz := Nat.mul_le_mul_right _ hk
    refine ⟨g2, us.take (k * sz), by simp; omega, ?_, by simp [Builtin.lenOf], g5.take _, fun u hu => g6 u (List.mem_of_mem_take hu)⟩
    cases a with
    | none =>
      have hc0 : m = 0 := by
        obtain ⟨q1, q2, _⟩ := h3 g1.symm
        rcases Nat.eq_zero_or_pos c with hc | hc
        · omega
        · cases q2 hc
      have hk0 : k = 0 := by omega
      subst hk0
      simp [Builtin.firstCells, loadCells, loadCellsFrom]
    | some a =>
      refine run_firstCells_some w sz k a m c (us.take (k * sz)) (by simp; omega) fun j u hu => ?_
      rw [List.getElem?_take] at hu
      split at hu
      · obtain ⟨b, e, h⟩ := g4 j u hu
        cases e; exact h
      · cases hu

include hT

theorem run_append_store {t e : TypeId} {et te : TE} (hs : T t = some et) (htd : et.td = .slice e) (ht : T e = some te) (ty : TypeId) {a : Option Addr} {n c m : Nat} {v : Value} {us : List Value} {w' : World}
    (hf : (Builtin.firstCells te.sz m v).run P w = .ok us.toArray w) (hl : (Builtin.lenOf v).run P w = .ok m w) (hroom : n + m ≤ c)
    (hst : match a with | some a => (storeCells (a.add (n * te.sz)) us).run P w = .ok () w' | none => w' = w) :
    (Builtin.append_ #[t, t] ty #[.slice a n c, v]).run P w = .ok (.slice a (n + m) c) w' := by
  obtain ⟨d, h1, h2⟩ := tab_und hT hs
  rw [htd] at h2
  have hd : d = .slice e := h2
  subst hd
  have hsz := run_siz (w := w) hT ht
  cases a with
  | none =>
    simp only at hst
    subst hst
    simp [Builtin.append_, run_underlying h1, hsz, hl, hroom, hf]
  | some a => simp [Builtin.append_, run_underlying h1, hsz, hl, hroom, hf, hst]

include hR

theorem acopy_sound {t : TypeId} {x y z : LV} {v u : Value} {H' : Hp} (h : acopy T H t x y = some (z, H')) (hx : TR μ H x v) (hy : TR μ H y u) (t2 ty : TypeId) :
    ∃ r w', (Builtin.copy_ #[t, t2] ty #[v, u]).run P w = .ok r w' ∧ Rep w0 μ H' w' ∧ TR μ H' z r ∧ Ext μ H μ H' := by
  unfold acopy at h
  split at h
  · rename_i e sz by_ zs hs
    split at h
    · rename_i te ht
      split at h
      · rename_i n m news hn hm hnews
        split at h
        · cases h
        rename_i hall
        simp only [Bool.not_eq_true, Bool.not_eq_false] at hall
        obtain ⟨d, h1, h2⟩ := tab_und hT hs
        have hd : d = .slice e := h2
        subst hd
        have hsz := run_siz (w := w) hT ht
        obtain ⟨g1, us, g2, g3, g4, g5, g6⟩ := src_sound (P := P) hR hy hm hnews (min m n) (Nat.min_le_left _ _)
        split at h
        · rename_i id ver off n' cap
          simp only [Option.map_eq_some_iff, Prod.mk.injEq] at h
          obtain ⟨H1, hp, rfl, rfl⟩ := h
          obtain ⟨w', k1, k2, k3, o, k4, k5⟩ := hput_sound (P := P) hR hp g5 (by simpa using hall)
          obtain ⟨o', a, c, q1, q2, rfl, q3⟩ := (hx : BR μ H (.sl id ver off n' cap) v)
          rw [k4] at q1; cases q1
          have hnn : n' = n := by simpa [lenOf] using hn
          subst hnn
          obtain ⟨r1, r2, _⟩ := q3 k5.symm
          refine ⟨_, w', ?_, k2, rfl, k3⟩
          have hmin : Nat.min m n' = min m n' := rfl
          rcases Nat.eq_zero_or_pos c with hc | hc
          · have h0 : n' = 0 := by omega
            subst h0
            have hu : us = [] := List.eq_nil_of_length_eq_zero (by simpa using g2)
            subst hu
            simp only [storeCells] at k1
            have hw : w' = w := (Result.ok.inj k1).2.symm
            subst hw
            have hmin0 : Nat.min m 0 = 0 := Nat.min_zero _
            rw [Nat.min_zero] at g3
            cases a <;> simp [Builtin.copy_, run_underlying h1, g4, hmin0, hsz, g3, goInt, storeCells] <;> rfl
          · obtain rfl := r2 hc
            simp [Builtin.copy_, run_underlying h1, g4, hmin, hsz, g3, k1, goInt]
        · cases h
          obtain ⟨a, rfl⟩ := (hx : BR μ H .nils v)
          have hn0 : n = 0 := by simpa [lenOf] using hn.symm
          subst hn0
          have hu : us = [] := List.eq_nil_of_length_eq_zero (by simpa using g2)
          subst hu
          refine ⟨_, w, ?_, hR, rfl, Ext.refl _ _⟩
          have hmin : Nat.min m 0 = min m 0 := rfl
          rw [Nat.min_zero] at g3
          cases a <;> simp [Builtin.copy_, run_underlying h1, g4, hmin, hsz, g3, goInt, storeCells] <;> rfl
        · cases h
      · cases h
    · cases h
  · cases h

theorem aclear_sound {t : TypeId} {x z : LV} {v : Value} {H' : Hp} (h : aclear T H t x = some (z, H')) (hx : TR μ H x v) (ty : TypeId) :
    ∃ r w', (Builtin.clear_ #[t] ty #[v]).run P w = .ok r w' ∧ Rep w0 μ H' w' ∧ TR μ H' z r ∧ Ext μ H μ H' := by
  unfold aclear at h
  split at h
  · rename_i e sz by_ zs hs
    split at h
    · rename_i te ht
      obtain ⟨d, h1, h2⟩ := tab_und hT hs
      have hd : d = .slice e := h2
      subst hd
      split at h
      · cases h
        obtain ⟨a, rfl⟩ := (hx : BR μ H .nils v)
        exact ⟨_, w, by cases a <;> simp [Builtin.clear_, run_underlying h1] <;> rfl, hR, ⟨#[], rfl, trivial⟩, Ext.refl _ _⟩
      · cases h
        obtain ⟨a, c, rfl⟩ := (hx : BR μ H .emp v)
        exact ⟨_, w, by cases a <;> simp [Builtin.clear_, run_underlying h1] <;> rfl, hR, ⟨#[], rfl, trivial⟩, Ext.refl _ _⟩
      · rename_i id ver off n cap
        split at h
        · cases h
        rename_i hall
        simp only [Bool.not_eq_true, Bool.not_eq_false] at hall
        simp only [Option.map_eq_some_iff, Prod.mk.injEq] at h
        obtain ⟨H1, hp, rfl, rfl⟩ := h
        obtain ⟨i, zz, z1, z2, z3, z4, z5, z6, z7⟩ := tab_info hT ht
        have hzl := (z6 μ H).len
        have hl2 : zz.cells.toList.length = zz.cells.size := Array.length_toList
        have hcs : All2 (BR μ H) (zeros te.zs n) (Builtin.zeroCells zz.cells n).toList := by
          refine All2.of_get ?_ fun j c u hc hu => ?_
          · rw [zeros_length, Array.length_toList, size_zeroCells, hzl, hl2]
          · obtain ⟨u', k1, _, k3⟩ := zeros_rel (z6 μ H) z7 n j c hc
            rw [Array.getElem?_toList] at hu
            have : u' = u := by
              have e : (Builtin.zeroCells zz.cells n)[j]? = some u' := k1
              rw [e] at hu; exact Option.some.inj hu
            rw [← this]; exact k3
        have hall2 : (zeros te.zs n).all LV.isCell = true := by
          simp only [zeros, List.all_flatten, List.all_replicate]
          split
          · rfl
          · simpa using hall
        obtain ⟨w', k1, k2, k3, o, k4, k5⟩ := hput_sound (P := P) hR hp hcs hall2
        obtain ⟨o', a, c, q1, q2, rfl, q3⟩ := (hx : BR μ H (.sl id ver off n cap) v)
        rw [k4] at q1; cases q1
        obtain ⟨r1, r2, _⟩ := q3 k5.symm
        have hzero : ∀ w : World, (zeroValue e).run P w = .ok zz w := fun w => by simp [zeroValue, typeInfo, z1, z4]
        rcases Nat.eq_zero_or_pos n with hn | hn
        · subst hn
          have : w' = w := by
            have e : (Builtin.zeroCells zz.cells 0).toList = [] := List.eq_nil_of_length_eq_zero (by rw [Array.length_toList, size_zeroCells]; simp)
            rw [e] at k1
            simp only [storeCells] at k1
            exact (Result.ok.inj k1).2.symm
          subst this
          exact ⟨_, _, by cases a <;> simp [Builtin.clear_, run_underlying h1] <;> rfl, k2, ⟨#[], rfl, trivial⟩, k3⟩
        · obtain rfl := r2 (by omega)
          have hn' : n ≠ 0 := by omega
          obtain ⟨n', rfl⟩ : ∃ n', n = n' + 1 := ⟨n - 1, by omega⟩
          exact ⟨_, _, by simp [Builtin.clear_, run_underlying h1, hzero, k1] <;> rfl, k2, ⟨#[], rfl, trivial⟩, k3⟩
      · cases h
    · cases h
  · cases h
end
end Go.Proofs.Ytpbafacehmjdmaa

namespace Go.Proofs.Ytpbafacehmjdmaa
open Go.RowKit
set_option linter.unusedSimpArgs false
set_option linter.unusedVariables false
set_option linter.unusedSectionVars false

theorem All2.snoc_get {μ : Nat → Pl} {H : Hp} {cs : List LV} {us : List Value} (h : All2 (BR μ H) cs us) (ho : ∀ u ∈ us, u.oneCell' = true) (z : Array Value) :
    ∀ (j : Nat) (c : LV), cs[j]? = some c → ∃ v, (us.toArray ++ z)[j]? = some v ∧ v.oneCell' = true ∧ BR μ H c v := by
  intro j c hj
  obtain ⟨v, k1, k2⟩ := h.get j c hj
  refine ⟨v, ?_, ho v (List.mem_of_getElem? k1), k2⟩
  have hlt : j < us.toArray.size := by
    rcases Nat.lt_or_ge j us.length with h | h
    · simpa using h
    · simp [List.getElem?_eq_none h] at k1
  rw [Array.getElem?_append, if_pos hlt, List.getElem?_toArray]
  exact k1

theorem run_append_growO {P : Program} (w : World) (t ty e : TypeId) (i : TypeInfo) (z : Value) (h1 : P.underlying t = some (.slice e)) (z1 : P.info? e = some i) (z4 : i.zero = some z) (b : Option Addr) (n c : Nat) (olds : List Value)
    (hl : olds.length = n * i.size) (ho : ∀ j v, olds[j]? = some v → ∃ a, b = some a ∧ w.cell? (a.add j) = some v) (hb : b = none → c = 0 ∧ n = 0) (a' : Addr) (m c' : Nat) (us : List Value) (hul : us.length = m * i.size)
    (hsc : ∀ j v, us[j]? = some v → w.cell? (a'.add j) = some v) (hg : c < n + m) (h63 : ((n + m : Nat) : Int) ≤ 9223372036854775807) (hfit : Builtin.nextslicecap (n + m) c * i.bytes ≤ 281474976710656) :
    (Builtin.append_ #[t, t] ty #[.slice b n c, .slice (some a') m c']).run P w =
      .ok (.slice (some ⟨w.heap.size, 0, none⟩) (n + m) (grownCap w (n + m) c e)) (w.drew.alloc (.cells (olds.toArray ++ us.toArray ++ Builtin.zeroCells z.cells (grownCap w (n + m) c e - (n + m))) e)) := by
  cases b with
  | some b => exact run_append_grow w t ty e i z h1 z1 z4 b n c olds hl (fun j v hj => by obtain ⟨a, e, h⟩ := ho j v hj; cases e; exact h) a' m c' us hul hsc hg h63 hfit
  | none =>
    obtain ⟨rfl, rfl⟩ := hb rfl
    have h0 : olds = [] := List.eq_nil_of_length_eq_zero (by simpa using hl)
    subst h0
    rw [Nat.zero_add] at hfit
    rw [nextslicecap_zero (by omega)] at hfit
    have := run_append_nil (P := P) w t ty e i z h1 z1 z4 a' m c' us hul hsc (by omega) (by omega) hfit
    simpa using this

section
variable {P : Program} {T : Tab} (hT : TabOk P T) {w0 w : World} {μ : Nat → Pl} {H : Hp} (hR : Rep w0 μ H w)
include hT hR

/-- The row that an append makes anew. -/
theorem grown_row {e : TypeId} {te : TE} (ht : T e = some te) (hsz : te.sz ≠ 0) {t et : TypeId} {need c0 : Nat} {cs : List LV} {us : List Value} (hu : All2 (BR μ H) cs us) (ho : ∀ u ∈ us, u.oneCell' = true) (hl : us.length = need * te.sz)
    {z : Value} {i : TypeInfo} (z1 : P.info? e = some i) (z2 : i.size = te.sz) (z4 : i.zero = some z) (z5 : z.cells.size = te.sz) :
    let g := grownCap w need c0 e
    let cur := us.toArray ++ Builtin.zeroCells z.cells (g - need)
    cur.size = g * te.sz ∧ (∀ (j : Nat) (c : LV), cs[j]? = some c → ∃ v, cur[j]? = some v ∧ v.oneCell' = true ∧ BR μ H c v) ∧ cs.length ≤ cur.size ∧ need ≤ g := by
  intro g cur
  have hge : need ≤ g := grownCap_ge w need c0 e
  have hs : cur.size = g * te.sz := by
    simp only [cur, Array.size_append, List.size_toArray, size_zeroCells, z5, hl]
    rw [← Nat.add_mul]; congr 1; omega
  refine ⟨hs, hu.snoc_get ho _, ?_, hge⟩
  rw [hs, hu.len, hl]
  exact Nat.mul_le_mul_right _ hge

theorem aappend_sound {t : TypeId} {x y z : LV} {v u : Value} {H' : Hp} (h : aappend T H t x y = some (z, H')) (hx : TR μ H x v) (hy : TR μ H y u) (ty : TypeId) :
    ∃ r w' μ', (Builtin.append_ #[t, t] ty #[v, u]).run P w = .ok r w' ∧ Rep w0 μ' H' w' ∧ TR μ' H' z r ∧ Ext μ H μ' H' := by
  unfold aappend at h
  split at h
  case h_2 => cases h
  rename_i te0 hs
  split at h
  case h_2 => cases h
  rename_i e htd
  split at h
  case h_2 => cases h
  rename_i te ht
  split at h
  case h_2 => cases h
  rename_i m news hm hnews
  unfold aapp at h
  by_cases hsz0 : te.sz = 0
  · rw [if_pos hsz0] at h; cases h
  rw [if_neg hsz0] at h
  split at h
  · cases h
  rename_i hall
  simp only [Bool.not_eq_true, Bool.not_eq_false] at hall
  have hall' : news.all LV.isCell = true := by simpa using hall
  obtain ⟨d, h1, h2⟩ := tab_und hT hs
  rw [htd] at h2
  have hd : d = .slice e := h2
  subst hd
  obtain ⟨i, zz, z1, z2, z3, z4, z5, z6, z7⟩ := tab_info hT ht
  have hzl : zz.cells.size = te.sz := by
    have := (z6 μ H).len
    have hl2 : zz.cells.toList.length = zz.cells.size := Array.length_toList
    omega
  obtain ⟨g1, us, g2, g3, g4, g5, g6⟩ := src_sound (P := P) hR hy hm hnews m (Nat.le_refl _)
  rw [List.take_of_length_le (by omega)] at g5
  -- where the new cells lie
  have hsrc : 0 < m → ∃ a' c', u = .slice (some a') m c' ∧ ∀ j v, us[j]? = some v → w.cell? (a'.add j) = some v := by
    intro hpos
    cases y <;> simp only [lenOf, cellsOf] at hm hnews <;> try cases hm
    case nils => omega
    case emp => omega
    case sl id ver off cap =>
      obtain ⟨o, a, c, q1, q2, rfl, q3⟩ := (hy : BR μ H (.sl id ver off m cap) u)
      obtain ⟨p1, _, us', p3, p4', p5, p6⟩ := sl_cells hR q1 q3 hnews
      obtain ⟨r1, r2, _⟩ := q3 p1.symm
      obtain rfl := r2 (by omega)
      have p4 : ∀ j u, us'[j]? = some u → w.cell? ((ad (μ id) off).add j) = some u := fun j u hu => by
        obtain ⟨b, e, h⟩ := p4' j u hu
        cases e; exact h
      refine ⟨_, c, rfl, ?_⟩
      have hf := run_firstCells_some (P := P) w te.sz m _ m c us' p3 p4
      rw [hf] at g3
      have : us' = us := by simpa using (Result.ok.inj g3).1
      rw [← this]; exact p4
  split at h
  · -- nil
    obtain ⟨a, rfl⟩ := (hx : BR μ H .nils v)
    by_cases hm0 : m = 0
    · rw [if_pos hm0] at h
      cases h
      subst hm0
      have hu : us = [] := List.eq_nil_of_length_eq_zero (by simpa using g2)
      subst hu
      refine ⟨_, w, μ, run_append_store hT hs htd ht ty g3 g4 (Nat.le_refl _) (by cases a <;> rfl), hR, ⟨a, rfl⟩, Ext.refl _ _⟩
    · rw [if_neg hm0] at h
      split at h
      case isFalse => cases h
      rename_i hb
      cases h
      obtain ⟨a', c', rfl, hcells⟩ := hsrc (by omega)
      obtain ⟨r1, r2, r3, r4⟩ := grown_row hT hR (t := t) (et := t) ht hsz0 (need := m) (c0 := 0) g5 g6 g2 z1 z2 z4 hzl
      obtain ⟨k1, k2⟩ := hR.made 1 e te.sz r3 r2
      have hrun : (Builtin.append_ #[t, t] ty #[.slice a 0 0, .slice (some a') m c']).run P w = .ok (.slice (some ⟨w.heap.size, 0, none⟩) m (grownCap w m 0 e)) (w.drew.alloc (.cells (us.toArray ++ Builtin.zeroCells zz.cells (grownCap w m 0 e - m)) e)) := by
        cases a with
        | none => exact run_append_nil w t ty e i zz h1 z1 z4 a' m c' us (by rw [z2]; exact g2) hcells (by omega) (by omega) (by rw [z3]; omega)
        | some b =>
          have := run_append_grow (P := P) w t ty e i zz h1 z1 z4 b 0 0 [] (by simp) (by simp) a' m c' us (by rw [z2]; exact g2) hcells (by omega) (by simp; omega) (by rw [z3]; exact growslice_fits (by omega) (by simpa using hb.1))
          simpa using this
      refine ⟨_, _, _, hrun, k1, ?_, k2⟩
      exact ⟨⟨0, false, e, te.sz, news⟩, _, _, by simp, Nat.le_refl _, rfl, fun _ => ⟨r4, fun _ => by simp [ad], (by intro k hk; cases hk), fun _ => ⟨fun _ => by simp only [if_true]; rw [r1]; omega, by simp only [if_true]; rw [r1]; omega⟩⟩⟩
  · -- a slice
    rename_i id ver off n cap
    unfold aappO at h
    split at h
    case h_1 => cases h
    rename_i o ho
    by_cases hver : o.ver ≠ ver
    · rw [if_pos hver] at h; cases h
    rw [if_neg hver] at h
    by_cases hosz : o.sz ≠ te.sz
    · rw [if_pos hosz] at h; cases h
    rw [if_neg hosz] at h
    by_cases hoel : o.el ≠ e
    · rw [if_pos hoel] at h; cases h
    rw [if_neg hoel] at h
    have hver' : o.ver = ver := Decidable.not_not.1 hver
    have hosz' : o.sz = te.sz := Decidable.not_not.1 hosz
    have hoel' : o.el = e := Decidable.not_not.1 hoel
    have hxx : BR μ H (.sl id ver off n cap) v := hx
    obtain ⟨o', a, c, q1, q2, rfl, q3⟩ := (hx : BR μ H (.sl id ver off n cap) v)
    rw [ho] at q1; cases q1
    obtain ⟨p1, p2, p3, p4⟩ := q3 hver'.symm
    have hnone : a = none → c = 0 ∧ n = 0 := fun e => by
      rcases Nat.eq_zero_or_pos c with h | h
      · omega
      · rw [e] at p2; cases p2 h
    split at h
    · -- own
      by_cases hro : o.ro = true
      · rw [if_pos hro] at h; cases h
      rw [if_neg hro] at h
      have hro' : o.ro = false := by simpa using hro
      obtain ⟨b2, b3, _⟩ := hR.rw id o ho hro'
      have hcap := (p4 hro').1 rfl
      rw [hosz'] at hcap
      split at h
      · -- room that is known
        rename_i hin
        cases h
        have hcm : n + m ≤ c := by
          have : (n + m) * te.sz ≤ c * te.sz := by omega
          exact Nat.le_of_mul_le_mul_right this (by omega)
        have hdist : (n + m) * te.sz = n * te.sz + m * te.sz := Nat.add_mul _ _ _
        have hp : hput H id ver (off + n * te.sz) news = some (H.set id { o with cs := sets o.cs (off + n * te.sz) news }) := by
          unfold hput
          rw [ho]
          simp only
          rw [if_pos ⟨hver', hro', by omega⟩]
        obtain ⟨w', s1, s2, s3, _⟩ := hput_sound (P := P) hR hp g5 hall'
        have hrun : (Builtin.append_ #[t, t] ty #[.slice a n c, u]).run P w = .ok (.slice a (n + m) c) w' := by
          refine run_append_store hT hs htd ht ty g3 g4 hcm ?_
          rcases Nat.eq_zero_or_pos c with hc | hc
          · have h0 : m = 0 := by omega
            subst h0
            have hu : us = [] := List.eq_nil_of_length_eq_zero (by simpa using g2)
            subst hu
            simp only [storeCells] at s1
            cases a
            · exact (Result.ok.inj s1).2.symm
            · simp only [storeCells]; exact s1
          · have e := p2 hc
            rw [e]
            simp only [ad_add]; exact s1
        refine ⟨_, w', μ, hrun, s2, ?_, s3⟩
        have hb := BR.ext s3 hxx
        obtain ⟨o2, a2, c2, t1, t2, t3, t4⟩ := hb
        cases t3
        exact ⟨o2, _, _, t1, t2, rfl, fun e => ⟨hcm, (t4 e).2.1, (t4 e).2.2.1, (t4 e).2.2.2⟩⟩
      · split at h
        case isFalse => cases h
        rename_i hnin hgr
        cases h
        obtain ⟨rfl, hlen, hcells, hby, h44⟩ := hgr
        have hlt : id < H.length := by
          rcases Nat.lt_or_ge id H.length with h | h
          · exact h
          · simp [List.getElem?_eq_none h] at ho
        -- the old cells
        obtain ⟨olds, e1, e2, e3, e4⟩ := seg_sound hR ho 0 (n * te.sz) (by omega)
        have hseg : (o.cs.drop 0).take (n * te.sz) = o.cs := by rw [List.drop_zero, List.take_of_length_le (by omega)]
        rw [hseg] at e3
        have hboth : All2 (BR μ H) (o.cs ++ news) (olds ++ us) := e3.app g5
        have hone : ∀ x ∈ olds ++ us, x.oneCell' = true := fun x hx => by
          rcases List.mem_append.1 hx with hx | hx
          · exact e4 x hx
          · exact g6 x hx
        have hlen2 : (olds ++ us).length = (n + m) * te.sz := by rw [List.length_append, e1, g2, Nat.add_mul]
        have fin : ∀ (p : Pl) (w' : World) (cc : Nat), Rep w0 (fun i => if i = id then p else μ i) (H.set id { o with ver := ver + 1, cs := o.cs ++ news }) w' → p.off = 0 → n + m ≤ cc → cc * te.sz = p.size → (0 < cc → True) →
            TR (fun i => if i = id then p else μ i) (H.set id { o with ver := ver + 1, cs := o.cs ++ news }) (.sl id (ver + 1) 0 (n + m) none) (.slice (some ⟨p.b, 0, none⟩) (n + m) cc) := by
          intro p w' cc _ hp0 hcc hsize _
          exact ⟨_, _, _, List.getElem?_set_self hlt, Nat.le_refl _, rfl, fun _ => ⟨hcc, fun _ => by simp [ad, hp0], (by intro k hk; cases hk), fun _ => ⟨fun _ => by simp only [if_true, hosz']; omega, by simp only [if_true, hosz']; omega⟩⟩⟩
        have hE : ∀ p, Ext μ H (fun i => if i = id then p else μ i) (H.set id { o with ver := ver + 1, cs := o.cs ++ news }) := by
          intro p j q hq
          by_cases ej : j = id
          · subst ej
            rw [ho] at hq; cases hq
            exact ⟨_, List.getElem?_set_self hlt, by simp only; omega, rfl, rfl, rfl, fun hh => by simp only at hh; omega⟩
          · exact ⟨q, by rw [List.getElem?_set_ne (Ne.symm ej)]; exact hq, Nat.le_refl _, rfl, rfl, rfl, fun _ => by simp [ej]⟩
        by_cases hroom : n + m ≤ c
        · -- it fits
          rcases Nat.eq_zero_or_pos c with hc0 | hc0
          · subst hc0
            have hz : (μ id).size = 0 := by omega
            have hm0 : m = 0 := by omega
            have hn0 : n = 0 := by omega
            subst hm0
            subst hn0
            have hu : us = [] := List.eq_nil_of_length_eq_zero (by simpa using g2)
            subst hu
            have hn0 : news = [] := List.eq_nil_of_length_eq_zero (by simpa using g1)
            have ho0 : o.cs = [] := List.eq_nil_of_length_eq_zero (by simpa using hlen)
            have hrun := run_append_store hT hs htd ht ty g3 g4 hroom (a := a) (w' := w) (by cases a <;> rfl)
            have s2 := (hR.turn (o' := { o with ver := ver + 1, cs := o.cs ++ news }) (w' := w) ho hro' hro' (by simp only; omega) rfl rfl (μ id) (fun _ => rfl) (Or.inr hR.bel) (fun _ _ _ => rfl) (Or.inl ⟨rfl, rfl⟩) b2 (by simp [hn0, ho0]) (Or.inl hz)).1
            refine ⟨_, w, _, hrun, s2, ?_, hE _⟩
            exact ⟨_, _, _, List.getElem?_set_self hlt, Nat.le_refl _, rfl, fun _ => ⟨hroom, fun h => by omega, (by intro k hk; cases hk), fun _ => ⟨fun _ => by simp only [if_true, hosz']; omega, by simp only [if_true, hosz']; omega⟩⟩⟩
          obtain rfl := p2 hc0
          have hz : (μ id).size ≠ 0 := by
            have := Nat.mul_pos hc0 (Nat.pos_of_ne_zero hsz0)
            omega
          obtain ⟨b1, _, _, cur, b4, b5⟩ := hR.real ho hro' hz
          have hst : ∃ w', (storeCells ((ad (μ id) 0).add (n * te.sz)) us).run P w = .ok () w' ∧ Rep w0 (fun i => if i = id then μ id else μ i) (H.set id { o with ver := ver + 1, cs := o.cs ++ news }) w' := by
            have hfit : (olds ++ us).length ≤ cur.size := by
              rw [hlen2, b5, ← hcap]
              have := Nat.mul_le_mul_right te.sz hroom
              omega
            have hcl : n * te.sz + us.length ≤ cur.toList.length := by
              have e : cur.toList.length = cur.size := Array.length_toList
              rw [List.length_append, e1] at hfit; omega
            have mk : ∀ w', Below w0.heap.size w0 w' → (∀ k, k < w.heap.size → (k ≠ (μ id).b ∨ (μ id).size = 0) → w'.heap[k]? = w.heap[k]?) → (∃ cur2 : Array Value, w'.heap[(μ id).b]? = some (.cells cur2 o.el (0, 0)) ∧ cur2.size = (μ id).size ∧ ∀ (j : Nat) (v : Value), (olds ++ us)[j]? = some v → cur2[j]? = some v) →
                Rep w0 (fun i => if i = id then μ id else μ i) (H.set id { o with ver := ver + 1, cs := o.cs ++ news }) w' := by
              intro w' hbel hoth ⟨cur2, c1, c2, c3⟩
              refine (hR.turn (o' := { o with ver := ver + 1, cs := o.cs ++ news }) ho hro' hro' (by simp only; omega) rfl rfl (μ id) (fun _ => rfl) (Or.inr hbel) hoth (Or.inl ⟨rfl, rfl⟩) b2 ?_ (Or.inr ⟨cur2, c1, c2, ?_⟩)).1
              · simp only; rw [hboth.len, ← b5]; exact hfit
              · intro j c hj
                obtain ⟨v, k1, k2⟩ := hboth.get j c hj
                exact ⟨v, c3 j v k1, hone v (List.mem_of_getElem? k1), BR.ext (hE _) k2⟩
            have holds : ∀ (j : Nat) (v : Value), olds[j]? = some v → cur[j]? = some v := by
              intro j v hj
              have := e2 j v hj
              rw [ad_add, Nat.zero_add] at this
              have e : ad (μ id) j = ⟨(μ id).b, j, none⟩ := by simp [ad, b2]
              rw [e, cell_row b4] at this
              exact this
            rcases Nat.eq_zero_or_pos m with hm0 | hm0
            · subst hm0
              have hu : us = [] := List.eq_nil_of_length_eq_zero (by simpa using g2)
              subst hu
              exact ⟨w, rfl, mk w hR.bel (fun _ _ _ => rfl) ⟨cur, b4, b5, fun j v hj => holds j v (by simpa using hj)⟩⟩
            · have ha : (ad (μ id) 0).add (n * te.sz) = ⟨(μ id).b, n * te.sz, none⟩ := by rw [ad_add]; simp [ad, b2]
              rw [ha]
              have hst := run_storeCells_at P (μ id).b (n * te.sz) o.el us 0 cur w b4 (by have e : cur.toList.length = cur.size := Array.length_toList; omega) g6
              refine ⟨_, hst, mk _ (below_setRow hR.bel b1 _) (fun k _ hne => setRow_other _ _ _ _ (hne.resolve_right hz)) ⟨_, setRow_heap w _ cur _ _ _ b4, ?_, ?_⟩⟩
              · have e : cur.toList.length = cur.size := Array.length_toList
                simp only [List.size_toArray, List.length_append, List.length_take, List.length_drop]
                omega
              · intro j v hj
                rw [Nat.add_zero, List.getElem?_toArray, splice_get _ _ _ _ hcl]
                rw [List.getElem?_append] at hj
                split at hj
                · rename_i hjl
                  rw [if_neg (by omega), Array.getElem?_toList]
                  exact holds j v hj
                · rename_i hjl
                  have hjl2 : j - olds.length < us.length := by
                    rcases Nat.lt_or_ge (j - olds.length) us.length with h | h
                    · exact h
                    · simp [List.getElem?_eq_none h] at hj
                  rw [if_pos (by omega), ← e1]
                  exact hj
          obtain ⟨w', s1, s2⟩ := hst
          have hrun := run_append_store hT hs htd ht ty g3 g4 hroom (a := some (ad (μ id) 0)) s1
          have := fin (μ id) w' c s2 b2 hroom (by omega) (fun _ => trivial)
          have ha : ad (μ id) 0 = ⟨(μ id).b, 0, none⟩ := by simp [ad, b2]
          rw [ha] at hrun ⊢
          exact ⟨_, w', _, hrun, s2, this, hE _⟩
        · -- it grows
          have hmpos : 0 < m := by omega
          obtain ⟨a', c', rfl, hsc⟩ := hsrc hmpos
          have hoa : ∀ (j : Nat) (v : Value), olds[j]? = some v → ∃ b, a = some b ∧ w.cell? (b.add j) = some v := by
            intro j v hj
            have hpos : 0 < c := by
              rcases Nat.eq_zero_or_pos c with hc | hc
              · have : n = 0 := by omega
                subst this
                have : olds = [] := List.eq_nil_of_length_eq_zero (by simpa using e1)
                subst this; simp at hj
              · exact hc
            exact ⟨_, p2 hpos, e2 j v hj⟩
          have hrun := run_append_growO (P := P) w t ty e i zz h1 z1 z4 a n c olds (by rw [z2]; exact e1) hoa hnone a' m c' us (by rw [z2]; exact g2) hsc (by omega) (by omega) (by rw [z3]; exact growslice_fits (by omega) hby)
          obtain ⟨r1, r2, r3, r4⟩ := grown_row hT hR (t := t) (et := t) ht hsz0 (need := n + m) (c0 := c) hboth hone hlen2 z1 z2 z4 hzl
          have hap : olds.toArray ++ us.toArray ++ Builtin.zeroCells zz.cells (grownCap w (n + m) c e - (n + m)) = (olds ++ us).toArray ++ Builtin.zeroCells zz.cells (grownCap w (n + m) c e - (n + m)) := by simp
          rw [hap] at hrun
          have hrep := (hR.turn (o' := { o with ver := ver + 1, cs := o.cs ++ news }) (w' := w.drew.alloc (.cells ((olds ++ us).toArray ++ Builtin.zeroCells zz.cells (grownCap w (n + m) c e - (n + m))) e)) ho hro' hro' (by simp only; omega) rfl rfl
            ⟨w.heap.size, 0, ((olds ++ us).toArray ++ Builtin.zeroCells zz.cells (grownCap w (n + m) c e - (n + m))).size⟩ (fun hh => by simp only at hh; omega)
            (Or.inr ((hR.bel.drew).alloc (by simpa using hR.bel.size) _)) (fun k hk _ => heap_alloc_old w.drew _ hk) (Or.inr (Nat.le_refl _)) rfl r3 (Or.inr ⟨_, by simp only [hoel']; exact heap_alloc_new w.drew _, rfl, fun j cc hj => by
              obtain ⟨v, k1, k2, k3⟩ := r2 j cc hj
              exact ⟨v, k1, k2, BR.ext (hE _) k3⟩⟩)).1
          exact ⟨_, _, _, hrun, hrep, fin _ _ _ hrep rfl r4 (by rw [r1]) (fun _ => trivial), hE _⟩
    · -- cut
      rename_i k
      split at h
      · cases h
      rename_i hk
      split at h
      case h_2 => cases h
      rename_i olds' hold
      split at h
      case isFalse => cases h
      rename_i hcond
      cases h
      obtain ⟨hoc, hby, h44⟩ := hcond
      have hck : c = k := p3 k rfl
      subst hck
      obtain ⟨_, e0, olds, e1, e2, e3, e4⟩ := sl_cells hR ho q3 hold
      have hmpos : 0 < m := by omega
      obtain ⟨a', c', rfl, hsc⟩ := hsrc hmpos
      have hboth : All2 (BR μ H) (olds' ++ news) (olds ++ us) := e3.app g5
      have hone : ∀ x ∈ olds ++ us, x.oneCell' = true := fun x hx => by
        rcases List.mem_append.1 hx with hx | hx
        · exact e4 x hx
        · exact g6 x hx
      have hlen2 : (olds ++ us).length = (n + m) * te.sz := by rw [List.length_append, e1, g2, Nat.add_mul]
      have hrun := run_append_growO (P := P) w t ty e i zz h1 z1 z4 a n c olds (by rw [z2]; exact e1) e2 hnone a' m c' us (by rw [z2]; exact g2) hsc (by omega) (by omega) (by rw [z3]; exact growslice_fits (by omega) hby)
      obtain ⟨r1, r2, r3, r4⟩ := grown_row hT hR (t := t) (et := t) ht hsz0 (need := n + m) (c0 := c) hboth hone hlen2 z1 z2 z4 hzl
      have hap : olds.toArray ++ us.toArray ++ Builtin.zeroCells zz.cells (grownCap w (n + m) c e - (n + m)) = (olds ++ us).toArray ++ Builtin.zeroCells zz.cells (grownCap w (n + m) c e - (n + m)) := by simp
      rw [hap] at hrun
      obtain ⟨k1, k2⟩ := hR.made 1 e te.sz r3 r2
      refine ⟨_, _, _, hrun, k1, ?_, k2⟩
      exact ⟨⟨0, false, e, te.sz, olds' ++ news⟩, _, _, by simp, Nat.le_refl _, rfl, fun _ => ⟨r4, fun _ => by simp [ad], (by intro k hk; cases hk), fun _ => ⟨fun _ => by simp only [if_true]; rw [r1]; omega, by simp only [if_true]; rw [r1]; omega⟩⟩⟩
  · cases h
end
end Go.Proofs.Ytpbafacehmjdmaa

namespace Go.Proofs.Ytpbafacehmjdmaa
open Go.RowKit
set_option linter.unusedSimpArgs false
set_option linter.unusedVariables false
set_option linter.unusedSectionVars false

def CRel (μ : Nat → Pl) (H : Hp) (cs : List LV) (cells : Array Value) : Prop :=
  cs.length = cells.size ∧ ∀ (j : Nat) (c : LV), cs[j]? = some c → ∃ v, cells[j]? = some v ∧ v.oneCell' = true ∧ BR μ H c v

theorem CRel.set {μ : Nat → Pl} {H : Hp} {cs : List LV} {cells : Array Value} (h : CRel μ H cs cells) (i : Nat) {x : LV} {v : Value} (hx : BR μ H x v) (ho : v.oneCell' = true) : CRel μ H (cs.set i x) (cells.setIfInBounds i v) := by
  refine ⟨by simp [h.1], fun j c hj => ?_⟩
  by_cases e : i = j
  · subst e
    have hlt : i < cs.length := by
      rcases Nat.lt_or_ge i (cs.set i x).length with h | h
      · simpa using h
      · simp [List.getElem?_eq_none h] at hj
    rw [List.getElem?_set_self hlt] at hj
    cases hj
    exact ⟨v, by simp [← h.1, hlt], ho, hx⟩
  · rw [List.getElem?_set_ne e] at hj
    obtain ⟨u, k1, k2, k3⟩ := h.2 j c hj
    exact ⟨u, by rw [Array.getElem?_setIfInBounds_ne e]; exact k1, k2, k3⟩

theorem CRel.sets {μ : Nat → Pl} {H : Hp} : ∀ {xs : List LV} {us : List Value} (off k : Nat) {cs : List LV} {cells : Array Value}, CRel μ H cs cells → All2 (BR μ H) xs us → (∀ u ∈ us, u.oneCell' = true) →
    CRel μ H (sets cs (off + k) xs) ((us.zipIdx k).foldl (fun cs p => cs.setIfInBounds (off + p.2) p.1) cells)
  | [], [], _, _, _, _, h, _, _ => h
  | x :: xs, u :: us, off, k, cs, cells, h, hx, ho => by
    simp only [Go.Proofs.Ytpbafacehmjdmaa.sets, List.zipIdx_cons, List.foldl_cons]
    exact CRel.sets off (k + 1) (h.set (off + k) hx.1 (ho u (by simp))) hx.2 (fun v hv => ho v (by simp [hv]))
  | [], _ :: _, _, _, _, _, _, hx, _ => hx.elim
  | _ :: _, [], _, _, _, _, _, hx, _ => hx.elim

theorem fill_sound {μ : Nat → Pl} {H : Hp} {place place' : Nat → Option (Nat × Nat)} (hp : ∀ i x, place i = some x → place' i = some x) : ∀ {parts : List (Nat × LV)} {vparts : List (Nat × Value)} {cs cs' : List LV} {cells : Array Value}, afill place cs parts = some cs' → CRel μ H cs cells →
    All2 (fun p q => p.1 = q.1 ∧ TR μ H p.2 q.2) parts vparts → ∃ cells', Instr.fill place' cells vparts = some cells' ∧ CRel μ H cs' cells'
  | [], [], cs, cs', cells, h, hc, _ => by
    simp only [afill, Option.some.injEq] at h
    subst h
    exact ⟨cells, rfl, hc⟩
  | (i, x) :: parts, (i', v) :: vparts, cs, cs', cells, h, hc, hr => by
    obtain ⟨⟨hi, hx⟩, hrest⟩ := hr
    simp only at hi hx
    subst hi
    simp only [afill] at h
    cases hpl : place i with
    | none => rw [hpl] at h; cases h
    | some p =>
      obtain ⟨off, size⟩ := p
      rw [hpl] at h
      simp only at h
      split at h
      · cases h
      · rename_i hn
        simp only [not_or] at hn
        obtain ⟨n1, n2, n3⟩ := hn
        have n3' : (cellsL x).all LV.isCell = true := by simpa using n3
        have hcv := cells_of_cell hx n3'
        have hlv := hcv.len
        have hl2 : v.cells.toList.length = v.cells.size := Array.length_toList
        have hc2 := CRel.sets off 0 hc hcv (hcv.one n3')
        obtain ⟨cells', k1, k2⟩ := fill_sound hp h hc2 hrest
        refine ⟨cells', ?_, k2⟩
        have hs1 : v.cells.size = size := by omega
        have hs2 : ¬ (off + v.cells.size > cells.size) := by have := hc.1; omega
        have hfold : v.cells.zipIdx.foldl (fun cs x => match x with | (c, j) => cs.setIfInBounds (off + j) c) cells = (v.cells.toList.zipIdx 0).foldl (fun cs p => cs.setIfInBounds (off + p.2) p.1) cells := by
          rw [← Array.foldl_toList, Array.toList_zipIdx]
        rw [Instr.fill, hp i _ hpl]
        simp only [hs1, ne_eq, not_true_eq_false, decide_false, Bool.false_or]
        rw [if_neg (by rw [hs1] at hs2; simpa using hs2), hfold]
        exact k1
  | [], _ :: _, _, _, _, _, _, hr => hr.elim
  | _ :: _, [], _, _, _, _, _, hr => hr.elim

theorem CRel_of_All2 {μ : Nat → Pl} {H : Hp} {cs : List LV} {cells : Array Value} (h : All2 (BR μ H) cs cells.toList) (ho : ∀ v ∈ cells.toList, v.oneCell' = true) : CRel μ H cs cells := by
  refine ⟨by have := h.len; have e : cells.toList.length = cells.size := Array.length_toList; omega, fun j c hj => ?_⟩
  obtain ⟨v, k1, k2⟩ := h.get j c hj
  exact ⟨v, by rw [← Array.getElem?_toList]; exact k1, ho v (List.mem_of_getElem? k1), k2⟩

theorem All2_of_CRel {μ : Nat → Pl} {H : Hp} {cs : List LV} {cells : Array Value} (h : CRel μ H cs cells) : All2 (BR μ H) cs cells.toList := by
  refine All2.of_get (by rw [Array.length_toList]; exact h.1) fun j a b ha hb => ?_
  obtain ⟨v, k1, _, k3⟩ := h.2 j a ha
  rw [Array.getElem?_toList, k1] at hb
  cases hb; exact k3

section
variable {P : Program} {T : Tab} (hT : TabOk P T) {w0 w : World} {μ : Nat → Pl} {H : Hp} (hR : Rep w0 μ H w)
include hT

theorem mapM_places : ∀ {fields : List Field}, (fields.all fun f => (T f.type).isSome) = true →
    fields.mapM (fun f => (P.info? f.type).map fun i => (f.offset, i.size)) = some (fields.map fun f => (f.offset, ((T f.type).map (·.sz)).getD 0))
  | [], _ => rfl
  | f :: fields, h => by
    simp only [List.all_cons, Bool.and_eq_true] at h
    obtain ⟨te, ht⟩ := Option.isSome_iff_exists.1 h.1
    obtain ⟨i, z, z1, z2, _⟩ := tab_info hT ht
    rw [List.mapM_cons, mapM_places h.2]
    simp [z1, ht, z2]

theorem build_sound {t : TypeId} {te : TE} (ht : T t = some te) {parts : List (Nat × LV)} {vparts : Array (Nat × Value)} (hp : All2 (fun p q => p.1 = q.1 ∧ TR μ H p.2 q.2) parts vparts.toList) {cs : List LV}
    (h : (∃ fs, te.td = .struct fs ∧ (fs.all fun p => (T p.2).isSome) = true ∧ afill (fun i => (fs[i]?).bind fun p => (T p.2).map fun e => (p.1, e.sz)) te.zs parts = some cs) ∨
      ∃ n e ee, te.td = .arr n e ∧ T e = some ee ∧ afill (fun i => some (i * ee.sz, ee.sz)) te.zs parts = some cs) :
    ∃ v, (Instr.build t vparts).run P w = .ok v w ∧ TR μ H (.agg cs) v := by
  obtain ⟨i, z, z1, z2, z3, z4, z5, z6, z7⟩ := tab_info hT ht
  obtain ⟨d, h1, h2⟩ := tab_und hT ht
  have hc := CRel_of_All2 (z6 μ H) z7
  rcases h with ⟨fs, hs, hall, hf⟩ | ⟨n, e, ee, hs, he, hf⟩
  · rw [hs] at h2
    obtain ⟨fields, rfl, h3⟩ := h2
    subst h3
    have hm := mapM_places hT (fields := fields.toList) (by simpa [List.all_map] using hall)
    obtain ⟨cells, k1, k2⟩ := fill_sound (place' := ((fields.toList.map fun f => (f.offset, ((T f.type).map (·.sz)).getD 0)).toArray[·]?)) (fun i x hx => by
      cases hi : fields.toList[i]? with
      | none => simp [List.getElem?_map, hi] at hx
      | some f =>
        simp only [List.getElem?_map, hi, Option.map_some, Option.bind_some, Option.map_eq_some_iff] at hx
        obtain ⟨e, he, rfl⟩ := hx
        simp only [List.getElem?_toArray, List.getElem?_map, hi, Option.map_some, he, Option.getD_some]) hf hc hp
    refine ⟨_, run_build w t vparts cells ?_, cells, rfl, All2_of_CRel k2⟩
    simp only [Program.built, z1, h1, z4, hm]
    exact k1
  · rw [hs] at h2
    have hd : d = .array n e := h2
    subst hd
    obtain ⟨ie, ze, y1, y2, _⟩ := tab_info hT he
    obtain ⟨cells, k1, k2⟩ := fill_sound (place' := fun i => some (i * ee.sz, ee.sz)) (fun _ _ h => h) hf hc hp
    refine ⟨_, run_build w t vparts cells ?_, cells, rfl, All2_of_CRel k2⟩
    simp only [Program.built, z1, h1, z4, y1, y2]
    exact k1

include hR

theorem buildSlice_sound {t e len : Nat} {et te : TE} (hs : T t = some et) (htd : et.td = .slice e) (ht : T e = some te) (hlen : len * te.sz ≤ 16777216) {parts : List (Nat × LV)} {vparts : Array (Nat × Value)}
    (hp : All2 (fun p q => p.1 = q.1 ∧ TR μ H p.2 q.2) parts vparts.toList) {cs : List LV} (hf : afill (fun i => some (i * te.sz, te.sz)) (List.replicate (len * te.sz) .junk) parts = some cs) :
    ∃ w' μ' v, (Instr.buildSlice t len vparts).run P w = .ok v w' ∧ Rep w0 μ' (H ++ [⟨0, false, e, te.sz, cs⟩]) w' ∧ Ext μ H μ' (H ++ [⟨0, false, e, te.sz, cs⟩]) ∧ TR μ' (H ++ [⟨0, false, e, te.sz, cs⟩]) (.sl H.length 0 0 len none) v := by
  obtain ⟨d, h1, h2⟩ := tab_und hT hs
  rw [htd] at h2
  have hd : d = .slice e := h2
  subst hd
  obtain ⟨i, zz, z1, z2, z3, z4, z5, z6, z7⟩ := tab_info hT ht
  have hzl : zz.cells.size = te.sz := by
    have := (z6 μ H).len
    have hl2 : zz.cells.toList.length = zz.cells.size := Array.length_toList
    omega
  have hsz := run_siz (w := w) hT ht
  have hzero : (zeroValue e).run P w = .ok zz w := by simp [zeroValue, typeInfo, z1, z4]
  have hc0 : CRel μ H (List.replicate (len * te.sz) .junk) ((Array.range (len * te.sz)).map (zz.cells[· % zz.cells.size]!)) := by
    refine ⟨by simp, fun j c hj => ?_⟩
    have hjl : j < len * te.sz := by
      rcases Nat.lt_or_ge j (len * te.sz) with h | h
      · exact h
      · simp [List.getElem?_eq_none (l := List.replicate (len * te.sz) LV.junk) (by simpa using h)] at hj
    refine ⟨_, made_get _ _ j hjl, ?_, ?_⟩
    · have hpos : 0 < zz.cells.size := by
        rw [hzl]
        rcases Nat.eq_zero_or_pos te.sz with h | h
        · rw [h] at hjl; simp at hjl
        · exact h
      have hm := Nat.mod_lt j hpos
      rw [getElem!_pos zz.cells _ hm]
      exact z7 _ (by rw [Array.mem_toList_iff]; exact Array.getElem_mem hm)
    · rw [List.getElem?_replicate] at hj
      split at hj <;> cases hj <;> trivial
  obtain ⟨cells, k1, k2⟩ := fill_sound (place' := fun i => some (i * te.sz, te.sz)) (fun _ _ h => h) hf hc0 hp
  obtain ⟨r1, r2⟩ := hR.made 0 e te.sz (cs := cs) (cur := cells) (by rw [k2.1]; exact Nat.le_refl _) k2.2
  have hcs : cells.size = len * te.sz := by
    have hal : ∀ (parts : List (Nat × LV)) (a b : List LV), afill (fun i => some (i * te.sz, te.sz)) a parts = some b → b.length = a.length := by
      intro parts
      induction parts with
      | nil => intro a b h; simp only [afill, Option.some.injEq] at h; rw [h]
      | cons p parts ih =>
        intro a b h
        obtain ⟨i, x⟩ := p
        simp only [afill] at h
        split at h
        · cases h
        · rw [ih _ _ h, sets_length]
    rw [← k2.1, hal _ _ _ hf]; simp
  have hrun : (Instr.buildSlice t len vparts).run P w = .ok (.slice (some ⟨w.heap.size, 0, none⟩) len len) ((w.drewN 0).alloc (.cells cells e)) := by
    have hle : ¬ (len * te.sz > 2 ^ 24) := by omega
    by_cases h0 : len * te.sz = 0
    · have k1' : Instr.fill (fun i => some (i * te.sz, te.sz)) #[] vparts.toList = some cells := by
        rw [h0] at k1; simpa [Array.range_zero'] using k1
      simp [Instr.buildSlice, run_underlying h1, hsz, h0, k1', newRow, Array.range_zero']
      rfl
    · simp [Instr.buildSlice, run_underlying h1, hsz, hle, h0, hzero, k1, newRow]
      rfl
  refine ⟨_, _, _, hrun, r1, r2, ?_⟩
  exact ⟨⟨0, false, e, te.sz, cs⟩, _, _, by simp, Nat.le_refl _, rfl, fun _ => ⟨Nat.le_refl _, fun _ => by simp [ad], (by intro k hk; cases hk), fun _ => ⟨fun _ => by simp [hcs], by simp [hcs]⟩⟩⟩

theorem makeSlice_sound {t e : Nat} {et te : TE} (hs : T t = some et) (htd : et.td = .slice e) (ht : T e = some te) (k1 k2 : IntKind) (l c : Int) (h0 : 0 ≤ l) (hlc : l ≤ c) (hc : c ≤ 17592186044416) (hb : te.by_ * c ≤ 140737488355328) :
    ∃ w' μ' v, (Instr.makeSlice t (.int k1 l) (.int k2 c)).run P w = .ok v w' ∧ Rep w0 μ' (H ++ [⟨0, false, e, te.sz, zeros te.zs c.toNat⟩]) w' ∧ Ext μ H μ' (H ++ [⟨0, false, e, te.sz, zeros te.zs c.toNat⟩]) ∧ TR μ' (H ++ [⟨0, false, e, te.sz, zeros te.zs c.toNat⟩]) (.sl H.length 0 0 l.toNat none) v := by
  obtain ⟨d, h1, h2⟩ := tab_und hT hs
  rw [htd] at h2
  have hd : d = .slice e := h2
  subst hd
  obtain ⟨i, zz, z1, z2, z3, z4, z5, z6, z7⟩ := tab_info hT ht
  have hzl : zz.cells.size = te.sz := by
    have := (z6 μ H).len
    have hl2 : zz.cells.toList.length = zz.cells.size := Array.length_toList
    omega
  have hrun := run_make (P := P) w t e i zz h1 z1 z4 k1 k2 l c h0 hlc (by rw [z3]; omega) (by omega)
  have hcur : madeCells zz.cells (c.toNat * i.size) = (Array.range (c.toNat * zz.cells.size)).map (zz.cells[· % zz.cells.size]!) := by rw [z2]; simp only [madeCells, hzl]
  rw [hcur] at hrun
  obtain ⟨r1, r2⟩ := hR.made 0 e te.sz (cs := zeros te.zs c.toNat) (cur := (Array.range (c.toNat * zz.cells.size)).map (zz.cells[· % zz.cells.size]!)) (by rw [zeros_length, z5, ← hzl]; simp) (zeros_rel (z6 μ H) z7 c.toNat)
  refine ⟨_, _, _, hrun, r1, r2, ?_⟩
  exact ⟨⟨0, false, e, te.sz, zeros te.zs c.toNat⟩, _, _, by simp, Nat.le_refl _, rfl, fun _ => ⟨by omega, fun _ => by simp [ad], (by intro k hk; cases hk), fun _ => ⟨fun _ => by simp [hzl], by simp [hzl]⟩⟩⟩
end
end Go.Proofs.Ytpbafacehmjdmaa

namespace Go.Proofs.Ytpbafacehmjdmaa
open Go.RowKit
set_option linter.unusedSimpArgs false
set_option linter.unusedVariables false
set_option linter.unusedSectionVars false

theorem args_one {α β : Type} {f : α → β} {a : Array α} {x : β} (h : a.toList.map f = [x]) : ∃ p, a = #[p] ∧ f p = x := by
  obtain ⟨l⟩ := a
  match l, h with
  | [p], h => exact ⟨p, rfl, by simpa using h⟩
theorem args_two {α β : Type} {f : α → β} {a : Array α} {x y : β} (h : a.toList.map f = [x, y]) : ∃ p q, a = #[p, q] ∧ f p = x ∧ f q = y := by
  obtain ⟨l⟩ := a
  match l, h with
  | [p, q], h => exact ⟨p, q, rfl, by simpa using h⟩
theorem args_three {α β : Type} {f : α → β} {a : Array α} {x y z : β} (h : a.toList.map f = [x, y, z]) : ∃ p q r, a = #[p, q, r] ∧ f p = x ∧ f q = y ∧ f r = z := by
  obtain ⟨l⟩ := a
  match l, h with
  | [p, q, r], h => exact ⟨p, q, r, rfl, by simpa using h⟩
theorem arr_one {α : Type} {a : Array α} {x : α} (h : a.toList = [x]) : a = #[x] := by obtain ⟨l⟩ := a; simp at h; subst h; rfl
theorem arr_two {α : Type} {a : Array α} {x y : α} (h : a.toList = [x, y]) : a = #[x, y] := by obtain ⟨l⟩ := a; simp at h; subst h; rfl

section
variable {P : Program} {T : Tab} (hT : TabOk P T) {w0 w : World} {μ : Nat → Pl} {H : Hp} (hR : Rep w0 μ H w)

theorem lenOf_sl {x : LV} {n : Nat} {v : Value} (h : lenOf x = some n) (hx : TR μ H x v) : ∃ a c, v = .slice a n c := by
  cases x <;> simp only [lenOf] at h <;> try cases h
  case nils => obtain ⟨a, hv⟩ := hx; exact ⟨a, 0, hv⟩
  case emp => obtain ⟨a, c, hv⟩ := hx; exact ⟨a, c, hv⟩
  case sl id ver off cap => obtain ⟨o, a, c, _, _, hv, _⟩ := hx; exact ⟨_, c, hv⟩

theorem aminmax_sound {f : Int → Int → Int} {xs : List LV} {x : LV} (h : aminmax f xs = some x) {r : Operand → LV} {ρ : Operand → Value} {args : Array Operand} (ha : args.toList.map r = xs) (hρ : ∀ x, TR μ H (r x) (ρ x)) :
    (∃ k a b p q, args = #[p, q] ∧ ρ p = .int k a ∧ ρ q = .int k b ∧ x = .int k (f a b)) ∨ (∃ k a b c p q s, args = #[p, q, s] ∧ ρ p = .int k a ∧ ρ q = .int k b ∧ ρ s = .int k c ∧ x = .int k (f (f a b) c)) := by
  unfold aminmax at h
  split at h
  · rename_i k a k' b
    split at h
    · rename_i hk
      subst hk
      cases h
      obtain ⟨p, q, rfl, e1, e2⟩ := args_two ha
      have h1 := hρ p
      have h2 := hρ q
      rw [e1] at h1
      rw [e2] at h2
      exact Or.inl ⟨k, a, b, p, q, rfl, h1, h2, rfl⟩
    · cases h
  · rename_i k a k' b k'' c
    split at h
    · rename_i hk
      obtain ⟨rfl, rfl⟩ := hk
      cases h
      obtain ⟨p, q, s, rfl, e1, e2, e3⟩ := args_three ha
      have h1 := hρ p
      have h2 := hρ q
      have h3 := hρ s
      rw [e1] at h1
      rw [e2] at h2
      rw [e3] at h3
      exact Or.inr ⟨k, a, b, c, p, q, s, rfl, h1, h2, h3, rfl⟩
    · cases h
  · cases h

include hT hR

theorem abuiltin_sound {b : Builtin} {ts : Array TypeId} {args : Array Operand} {r : Operand → LV} {ρ : Operand → Value} (hρ : ∀ x, TR μ H (r x) (ρ x)) {x : LV} {H' : Hp} (h : abuiltin T H b ts.toList (args.toList.map r) = some (x, H')) (ty : TypeId) (cs : Array Bool) :
    Snd P w0 μ H w ((builtin b ts ty cs (args.map ρ)).run P w) x H' := by
  generalize hts : ts.toList = tl at h
  generalize hal : args.toList.map r = al at h
  unfold abuiltin at h
  split at h
  · -- len
    obtain rfl := arr_one hts
    obtain ⟨p, rfl, e⟩ := args_one hal
    have h1 := hρ p
    rw [e] at h1
    split at h
    · rename_i t x0 et sz by_ zs hs
      simp only [Option.map_eq_some_iff, Prod.mk.injEq] at h
      obtain ⟨n, hn, rfl, rfl⟩ := h
      obtain ⟨d, g1, g2⟩ := tab_und hT hs
      have hd : d = .slice et := g2
      subst hd
      refine Snd.still hR (v := .int .i64 n) ?_ rfl
      obtain ⟨a, c, hv⟩ := lenOf_sl hn h1
      simp [builtin, Builtin.len_, run_underlying g1, hv, goInt]
    · rename_i t x0 n et sz by_ zs hs
      cases h
      obtain ⟨d, g1, g2⟩ := tab_und hT hs
      have hd : d = .array n et := g2
      subst hd
      exact Snd.still hR (v := .int .i64 n) (by simp [builtin, Builtin.len_, run_underlying g1, goInt]) rfl
    · cases h
  · -- append
    obtain rfl := arr_two hts
    obtain ⟨p, q, rfl, e1, e2⟩ := args_two hal
    split at h
    · rename_i ht
      subst ht
      have h1 := hρ p
      have h2 := hρ q
      rw [e1] at h1
      rw [e2] at h2
      obtain ⟨v, w', μ', k1, k2, k3, k4⟩ := aappend_sound hT hR h h1 h2 ty
      exact ⟨w', μ', Or.inl ⟨v, by simp [builtin, k1], k3⟩, k2, k4⟩
    · cases h
  · -- copy
    rename_i t t2 x0 y0
    obtain rfl := arr_two hts
    obtain ⟨p, q, rfl, e1, e2⟩ := args_two hal
    have h1 := hρ p
    have h2 := hρ q
    rw [e1] at h1
    rw [e2] at h2
    obtain ⟨v, w', k1, k2, k3, k4⟩ := acopy_sound (P := P) hT hR h h1 h2 t2 ty
    exact ⟨w', μ, Or.inl ⟨v, by simp [builtin, k1], k3⟩, k2, k4⟩
  · -- clear
    obtain rfl := arr_one hts
    obtain ⟨p, rfl, e⟩ := args_one hal
    have h1 := hρ p
    rw [e] at h1
    obtain ⟨v, w', k1, k2, k3, k4⟩ := aclear_sound (P := P) hT hR h h1 ty
    exact ⟨w', μ, Or.inl ⟨v, by simp [builtin, k1], k3⟩, k2, k4⟩
  · -- max
    simp only [Option.map_eq_some_iff, Prod.mk.injEq] at h
    obtain ⟨y, h1, rfl, rfl⟩ := h
    rcases aminmax_sound h1 hal hρ with ⟨k, a, b, p, q, rfl, g1, g2, rfl⟩ | ⟨k, a, b, c, p, q, s, rfl, g1, g2, g3, rfl⟩
    · exact Snd.still hR (by simp [builtin, Builtin.max_, Builtin.max2, g1, g2] <;> rfl) rfl
    · exact Snd.still hR (by simp [builtin, Builtin.max_, Builtin.max2, g1, g2, g3] <;> rfl) rfl
  · -- min
    simp only [Option.map_eq_some_iff, Prod.mk.injEq] at h
    obtain ⟨y, h1, rfl, rfl⟩ := h
    rcases aminmax_sound h1 hal hρ with ⟨k, a, b, p, q, rfl, g1, g2, rfl⟩ | ⟨k, a, b, c, p, q, s, rfl, g1, g2, g3, rfl⟩
    · exact Snd.still hR (by simp [builtin, Builtin.min_, Builtin.min2, g1, g2] <;> rfl) rfl
    · exact Snd.still hR (by simp [builtin, Builtin.min_, Builtin.min2, g1, g2, g3] <;> rfl) rfl
  · cases h

theorem parts_rel {r : Operand → LV} {ρ : Operand → Value} (hρ : ∀ x, TR μ H (r x) (ρ x)) (parts : Array (Nat × Operand)) :
    All2 (fun p q => p.1 = q.1 ∧ TR μ H p.2 q.2) (parts.toList.map fun p => (p.1, r p.2)) (parts.map fun (i, x) => (i, ρ x)).toList := by
  rw [Array.toList_map]
  generalize parts.toList = l
  induction l with
  | nil => trivial
  | cons p l ih => exact ⟨⟨rfl, hρ p.2⟩, ih⟩

theorem abin_sound {op : BinOp} {t : TypeId} {x y : Operand} {a b : LV} {va vb : Value} {z : LV} (h : abin T op t a b = some z) (ha : TR μ H a va) (hb : TR μ H b vb) :
    ∃ v n, (eqGuard op t x y va vb).run P w = .ok () w ∧ (binOp op t va vb).run P w = .ok v (w.drewN n) ∧ TR μ H z v := by
  cases a <;> cases b <;> try (simp only [abin] at h; cases h; done)
  case int.int k m k' m' =>
    have e1 : va = .int k m := ha
    have e2 : vb = .int k' m' := hb
    subst e1; subst e2
    obtain ⟨v, h1, h2⟩ := run_bin_int (P := P) (w := w) h μ H
    exact ⟨v, 0, run_eqGuard_int .., h1, TR.of_BR h2⟩
  case flt.flt k o k' o' =>
    obtain ⟨b1, rfl, rfl⟩ := ha
    obtain ⟨b2, rfl, rfl⟩ := hb
    obtain ⟨v, n, h1, h2⟩ := run_bin_flt (P := P) (w := w) h μ H
    exact ⟨v, n, run_eqGuard_flt .., h1, TR.of_BR h2⟩
  case bool.bool b1 b2 =>
    have e1 : va = .bool b1 := ha
    have e2 : vb = .bool b2 := hb
    subst e1; subst e2
    obtain ⟨v, h1, h2⟩ := run_bin_bool (w := w) hT h μ H
    exact ⟨v, 0, run_eqGuard_bool .., h1, TR.of_BR h2⟩
end
end Go.Proofs.Ytpbafacehmjdmaa

namespace Go.Proofs.Ytpbafacehmjdmaa
open Go.RowKit
set_option linter.unusedSimpArgs false
set_option linter.unusedVariables false
set_option linter.unusedSectionVars false

theorem ORel_map {μ : Nat → Pl} {H : Hp} {r : Operand → LV} {ρ : Operand → Value} (hρ : ∀ x, TR μ H (r x) (ρ x)) (o : Option Operand) : ORel μ H (o.map r) (o.map ρ) := by
  cases o with
  | none => trivial
  | some x => exact hρ x

theorem All2.maps {μ : Nat → Pl} {H : Hp} {r : Operand → LV} {ρ : Operand → Value} (hρ : ∀ x, TR μ H (r x) (ρ x)) : ∀ (l : List Operand), All2 (TR μ H) (l.map r) (l.map ρ)
  | [] => trivial
  | x :: l => ⟨hρ x, All2.maps hρ l⟩

theorem All2.cells {μ : Nat → Pl} {H : Hp} : ∀ {xs : List LV} {vs : List Value}, All2 (TR μ H) xs vs → xs.all LV.isCell = true → All2 (BR μ H) xs vs
  | [], [], _, _ => trivial
  | x :: xs, v :: vs, h, hs => by
    simp only [List.all_cons, Bool.and_eq_true] at hs
    exact ⟨BR_of_TR hs.1 h.1, All2.cells h.2 hs.2⟩
  | [], _ :: _, h, _ => h.elim
  | _ :: _, [], h, _ => h.elim

theorem live_sound {H : Hp} {id ver : Nat} (h : liveO H id ver = true) : ∃ o, H[id]? = some o ∧ o.ver = ver := by
  unfold liveO at h
  split at h
  · rename_i o ho; exact ⟨o, ho, by simpa using h⟩
  · cases h

section
variable {P : Program} {T : Tab} (hT : TabOk P T) {w0 w : World} {μ : Nat → Pl} {H : Hp} (hR : Rep w0 μ H w)
include hT hR

set_option maxHeartbeats 1000000 in
theorem aop_sound {r : Operand → LV} {ρ : Operand → Value} (hρ : ∀ x, TR μ H (r x) (ρ x)) {o : Oper} {x : LV} {H' : Hp} (h : aop T r H o.op = some (x, H')) : Snd P w0 μ H w ((execOp ρ o).run P w) x H' := by
  obtain ⟨dst, op, type, pos, after, guard⟩ := o
  simp only at h
  cases op <;> simp only [aop] at h <;> try (cases h; done)
  case move y => cases h; exact Snd.still hR (by simp [execOp] <;> rfl) (hρ y)
  case assign y => cases h; exact Snd.still hR (by simp [execOp] <;> rfl) (hρ y)
  case pick c a b =>
    have hc := hρ c
    split at h
    · rename_i t ht
      rw [ht] at hc
      have hc' : ρ c = .bool t := hc
      cases h
      cases t
      · exact Snd.still hR (by simp [execOp, hc', asBool] <;> rfl) (hρ b)
      · exact Snd.still hR (by simp [execOp, hc', asBool] <;> rfl) (hρ a)
    · cases h
  case alloc t =>
    split at h
    · rename_i te ht
      cases h
      obtain ⟨w', μ', k1, k2, k3, k4⟩ := run_newVar_zero hT hR ht
      exact ⟨w', μ', Or.inl ⟨_, by simp [execOp, k1], TR.of_BR k4⟩, k2, k3⟩
    · cases h
  case box t y =>
    split at h
    · rename_i hs
      cases h
      obtain ⟨w', μ', k1, k2, k3, k4⟩ := run_box (P := P) (t := t) hR (hρ y) hs
      exact ⟨w', μ', Or.inl ⟨_, by simp [execOp, k1], TR.of_BR k4⟩, k2, k3⟩
    · cases h
  case build t parts =>
    split at h
    case h_2 => cases h
    rename_i te ht
    split at h
    · rename_i fs hfs
      split at h
      · cases h
      rename_i hall
      simp only [Option.map_eq_some_iff, Prod.mk.injEq] at h
      obtain ⟨cs, h1, rfl, rfl⟩ := h
      obtain ⟨v, k1, k2⟩ := build_sound hT (w := w) ht (parts_rel hT hR hρ parts) (Or.inl ⟨fs, hfs, by
        cases hq : (fs.all fun p => (T p.2).isSome) with
        | true => rfl
        | false => rw [hq] at hall; exact absurd rfl hall, h1⟩)
      exact Snd.still hR (by simp [execOp, k1] <;> rfl) k2
    · rename_i n e hfs
      split at h
      case h_2 => cases h
      rename_i ee he
      simp only [Option.map_eq_some_iff, Prod.mk.injEq] at h
      obtain ⟨cs, h1, rfl, rfl⟩ := h
      obtain ⟨v, k1, k2⟩ := build_sound hT (w := w) ht (parts_rel hT hR hρ parts) (Or.inr ⟨n, e, ee, hfs, he, h1⟩)
      exact Snd.still hR (by simp [execOp, k1] <;> rfl) k2
    · cases h
  case buildSlice t len parts =>
    split at h
    case h_2 => cases h
    rename_i e sz by_ zs hs
    split at h
    case h_2 => cases h
    rename_i te ht
    split at h
    case isFalse => cases h
    rename_i hlen
    simp only [Option.map_eq_some_iff, Prod.mk.injEq] at h
    obtain ⟨cs, h1, rfl, rfl⟩ := h
    obtain ⟨w', μ', v, k1, k2, k3, k4⟩ := buildSlice_sound hT hR hs rfl ht hlen (parts_rel hT hR hρ parts) h1
    exact ⟨w', μ', Or.inl ⟨v, by simp [execOp, k1], k4⟩, k2, k3⟩
  case load t a =>
    have ha := hρ a
    split at h
    case h_2 => cases h
    rename_i te ht
    generalize hpt : r a = la at h ha
    have hp : ∃ id ver off, la = .ptr id ver off := by
      cases la <;> simp [hgetsP, hgetP] at h
      exact ⟨_, _, _, rfl⟩
    obtain ⟨id, ver, off, rfl⟩ := hp
    simp only [hgetsP, hgetP] at h
    obtain ⟨rfl, u, k1, k2⟩ := run_loadAt hT hR ht ha h
    exact Snd.still hR (by simp [execOp, k1] <;> rfl) k2
  case store t a y =>
    have ha := hρ a
    split at h
    case h_2 => cases h
    rename_i te ht
    split at h
    case isFalse => cases h
    rename_i hc
    simp only [Option.map_eq_some_iff, Prod.mk.injEq] at h
    obtain ⟨H1, h1, rfl, rfl⟩ := h
    generalize hpt : r a = la at h1 ha
    have hp : ∃ id ver off, la = .ptr id ver off := by
      cases la <;> simp [hputP] at h1
      exact ⟨_, _, _, rfl⟩
    obtain ⟨id, ver, off, rfl⟩ := hp
    simp only [hputP] at h1
    obtain ⟨w', k1, k2, k3⟩ := run_storeAt hT hR ht ha (hρ y) hc.1 hc.2 h1
    exact ⟨w', μ, Or.inr ⟨by simp [execOp, k1], rfl⟩, k2, k3⟩
  case nilCheck y =>
    have hy := hρ y
    split at h
    · rename_i id ver off hp
      cases h
      rw [hp] at hy
      have hy2 := hy
      obtain ⟨o', a, _, _, hv, _⟩ := hy2
      exact Snd.still hR (v := ρ y) (by simp [execOp, hv]) hy
    · rename_i f cs hp
      cases h
      rw [hp] at hy
      have hy2 := hy
      obtain ⟨vs, hv, _⟩ := hy2
      exact Snd.still hR (v := ρ y) (by simp [execOp, hv]) hy
    · cases h
  case binOp op t y z yt =>
    simp only [Option.map_eq_some_iff, Prod.mk.injEq] at h
    obtain ⟨u, h1, rfl, rfl⟩ := h
    obtain ⟨v, n, k0, k1, k2⟩ := abin_sound hT hR (x := y) (y := z) h1 (hρ y) (hρ z)
    refine Snd.quiet hR n (v := v) ?_ k2
    simp [execOp, k0, k1]
  case unOp op t y =>
    simp only [Option.map_eq_some_iff, Prod.mk.injEq] at h
    obtain ⟨u, h1, rfl, rfl⟩ := h
    obtain ⟨v, k1, k2⟩ := run_aun (P := P) (w := w) h1 (hρ y)
    exact Snd.still hR (by simp [execOp, k1] <;> rfl) (TR.of_BR k2)
  case convert s d y =>
    simp only [Option.map_eq_some_iff, Prod.mk.injEq] at h
    obtain ⟨u, h1, rfl, rfl⟩ := h
    obtain ⟨v, n, k1, k2⟩ := run_aconv (w := w) hT h1 (hρ y)
    exact Snd.quiet hR n (v := v) (by simp [execOp, k1]) (TR.of_BR k2)
  case makeFunc fn first caps =>
    split at h
    case h_2 => cases h
    rename_i f
    split at h
    case isFalse => cases h
    rename_i hc
    cases h
    have hf : first = #[] := by
      have := hc.1
      exact Array.eq_empty_of_size_eq_zero this
    subst hf
    refine Snd.still hR (v := .func (.func f) #[] (caps.map ρ)) (by simp [execOp, Instr.makeFunc] <;> rfl) ⟨_, rfl, ?_⟩
    rw [Array.toList_map]
    exact (All2.maps hρ caps.toList).cells hc.2
  case makeSlice t l c =>
    have hl := hρ l
    have hcc := hρ c
    split at h
    case h_2 => cases h
    rename_i e sz by_ zs k1 l' k2 c' hs e1 e2
    rw [e1] at hl
    rw [e2] at hcc
    split at h
    case h_2 => cases h
    rename_i te ht
    unfold amake at h
    split at h
    case isFalse => cases h
    rename_i hc
    cases h
    have v1 : ρ l = .int k1 l' := hl
    have v2 : ρ c = .int k2 c' := hcc
    obtain ⟨w', μ', v, g1, g2, g3, g4⟩ := makeSlice_sound hT hR hs rfl ht k1 k2 l' c' hc.1 hc.2.1 hc.2.2.1 hc.2.2.2
    exact ⟨w', μ', Or.inl ⟨v, by simp [execOp, v1, v2, g1], g4⟩, g2, g3⟩
  case slice t y lo hi mx =>
    simp only [Option.map_eq_some_iff, Prod.mk.injEq] at h
    obtain ⟨u, h1, rfl, rfl⟩ := h
    obtain ⟨v, k1, k2⟩ := aslice_sound hT hR h1 (hρ y) (ORel_map hρ lo) (ORel_map hρ hi) (ORel_map hρ mx)
    exact Snd.still hR (by simp [execOp, k1] <;> rfl) (TR.of_BR k2)
  case fieldAddr s y f =>
    have hy := hρ y
    split at h
    case h_2 => cases h
    rename_i e hs
    split at h
    case h_2 => cases h
    rename_i fs htd
    split at h
    case h_2 => cases h
    rename_i p hf
    split at h
    case h_2 => cases h
    rename_i te ht
    split at h
    case isTrue => cases h
    rename_i hn
    simp only [Option.map_eq_some_iff, Prod.mk.injEq] at h
    obtain ⟨u, h1, rfl, rfl⟩ := h
    generalize hpt : r y = la at h1 hy
    cases la <;> simp only [fldP] at h1 <;> try (cases h1; done)
    rename_i id ver off
    split at h1
    case isFalse => cases h1
    rename_i hlive
    cases h1
    obtain ⟨o, ho, hver⟩ := live_sound hlive
    obtain ⟨o', a, q1, q2, hv, q3⟩ := hy
    rw [ho] at q1; cases q1
    have ha := q3 hver.symm
    subst ha
    have := run_fieldAt hT (w := w) hs htd hf ht hn (ad (μ id) off)
    refine Snd.still hR (v := .pointer (some (ad (μ id) (off + p.1)))) (by simp [execOp, hv, this, ad_add]) ?_
    exact ⟨o, _, ho, q2, rfl, fun _ => rfl⟩
  case field s y f =>
    have hy := hρ y
    split at h
    case h_2 => cases h
    rename_i fs sz by_ zs cs hs hp
    rw [hp] at hy
    split at h
    case h_2 => cases h
    rename_i fo ft hf
    simp only [Option.map_eq_some_iff, Prod.mk.injEq] at h
    obtain ⟨u, h1, rfl, rfl⟩ := h
    obtain ⟨vs, hv, hc⟩ := hy
    obtain ⟨v, k1, k2⟩ := run_field hT (w := w) hs rfl hf h1 hc
    exact Snd.still hR (v := v) (by simp [execOp, hv, k1]) k2
  case indexAddr t y i =>
    have hy := hρ y
    have hi := hρ i
    split at h
    case h_2 => cases h
    rename_i e0 hs
    split at h
    · rename_i e htd
      split at h
      case h_2 => cases h
      rename_i te j ht hj
      simp only [Option.map_eq_some_iff, Prod.mk.injEq] at h
      obtain ⟨u, h1, rfl, rfl⟩ := h
      generalize hpt : r y = la at h1 hy
      generalize hpi : r i = li at hj hi
      cases la <;> simp only [idxP] at h1 <;> try (cases h1; done)
      rename_i id ver off n cap
      split at h1
      case isFalse => cases h1
      rename_i hc
      cases h1
      cases li <;> simp only [aidx] at hj <;> try (cases hj; done)
      rename_i k j'
      cases hj
      obtain ⟨o, ho, hver⟩ := live_sound hc.2.2
      obtain ⟨o', a, c, q1, q2, hv, q3⟩ := hy
      rw [ho] at q1; cases q1
      have vi : ρ i = .int k j := hi
      obtain ⟨p1, p2, _⟩ := q3 hver.symm
      have ha := p2 (by omega)
      subst ha
      have := run_indexAt_slice hT (w := w) hs htd ht (ad (μ id) off) n c k j hc.1 hc.2.1
      refine Snd.still hR (v := .pointer (some (ad (μ id) (off + j.toNat * te.sz)))) (by simp [execOp, hv, vi, this, ad_add]) ?_
      exact ⟨o, _, ho, q2, rfl, fun _ => rfl⟩
    · rename_i n e htd
      split at h
      case h_2 => cases h
      rename_i te j ht hj
      simp only [Option.map_eq_some_iff, Prod.mk.injEq] at h
      obtain ⟨u, h1, rfl, rfl⟩ := h
      generalize hpt : r y = la at h1 hy
      generalize hpi : r i = li at hj hi
      cases la <;> simp only [arrP] at h1 <;> try (cases h1; done)
      rename_i id ver off
      split at h1
      case isFalse => cases h1
      rename_i hc
      cases h1
      cases li <;> simp only [aidx] at hj <;> try (cases hj; done)
      rename_i k j'
      cases hj
      obtain ⟨o, ho, hver⟩ := live_sound hc.2.2
      obtain ⟨o', a, q1, q2, hv, q3⟩ := hy
      rw [ho] at q1; cases q1
      have vi : ρ i = .int k j := hi
      have ha := q3 hver.symm
      subst ha
      have := run_indexAt_arr hT (w := w) hs htd ht (ad (μ id) off) k j hc.1 hc.2.1
      refine Snd.still hR (v := .pointer (some (ad (μ id) (off + j.toNat * te.sz)))) (by simp [execOp, hv, vi, this, ad_add]) ?_
      exact ⟨o, _, ho, q2, rfl, fun _ => rfl⟩
    · cases h
  case index t y i =>
    have hy := hρ y
    have hi := hρ i
    split at h
    case h_2 => cases h
    rename_i n e sz by_ zs cs k j hs hp hj
    rw [hp] at hy
    rw [hj] at hi
    split at h
    case h_2 => cases h
    rename_i te ht
    split at h
    case isFalse => cases h
    rename_i hc
    simp only [Option.map_eq_some_iff, Prod.mk.injEq] at h
    obtain ⟨u, h1, rfl, rfl⟩ := h
    obtain ⟨vs, hv, hcs⟩ := hy
    have vi : ρ i = .int k j := hi
    obtain ⟨v, k1, k2⟩ := run_index_arr hT (w := w) hs rfl ht k j hc.1 hc.2 h1 hcs
    exact Snd.still hR (v := v) (by simp [execOp, hv, vi, k1]) k2
  case extract t i =>
    have ht := hρ t
    split at h
    case h_2 => cases h
    rename_i cs hp
    rw [hp] at ht
    obtain ⟨vs, hv, hc⟩ := ht
    simp only [Option.map_eq_some_iff, Prod.mk.injEq] at h
    obtain ⟨u, h1, rfl, rfl⟩ := h
    obtain ⟨v, k1, k2⟩ := hc.get i u h1
    rw [Array.getElem?_toList] at k1
    exact Snd.still hR (v := v) (by simp [execOp, hv, Instr.extract, k1]) (TR.of_LR k2)
  case call c =>
    obtain ⟨callee, args, argTypes⟩ := c
    cases callee <;> simp only [] at h <;> try (cases h; done)
    rename_i b
    exact abuiltin_sound hT hR hρ h type _
end
end Go.Proofs.Ytpbafacehmjdmaa

namespace Go.Proofs.Ytpbafacehmjdmaa
open Go.RowKit
set_option linter.unusedSimpArgs false
set_option linter.unusedVariables false
set_option linter.unusedSectionVars false

/-- What a call comes to. -/
def Comes1 (P : Program) (w0 : World) (μ : Nat → Pl) (H : Hp) (Q : LV → Hp → Prop) (v : Value) (w' : World) : Prop :=
  ∃ r μ' H', Rep w0 μ' H' w' ∧ TR μ' H' r v ∧ Ext μ H μ' H' ∧ Q r H'

def FunH (P : Program) (g : FuncId) (args : List LV) (H : Hp) (Q : LV → Hp → Prop) : Prop :=
  ∀ (w0 : World) (μ : Nat → Pl) (w : World) (cargs : Array Value), Rep w0 μ H w → All2 (TR μ H) args cargs.toList →
    match (callFunc g cargs).run P w with
    | .ok (.enter f as_) w' => Calls P f as_ w' fun e w'' => ∃ v, e = .returned v ∧ Comes1 P w0 μ H Q v w''
    | .ok (.value v) w' => Comes1 P w0 μ H Q v w'
    | _ => False

theorem FunH.mono {P : Program} {g : FuncId} {args : List LV} {H : Hp} {Q Q' : LV → Hp → Prop} (h : FunH P g args H Q) (hq : ∀ r H', Q r H' → Q' r H') : FunH P g args H Q' := by
  intro w0 μ w cargs hR ha
  have := h w0 μ w cargs hR ha
  have hm : ∀ v w', Comes1 P w0 μ H Q v w' → Comes1 P w0 μ H Q' v w' := fun v w' ⟨r, μ', H', a, b, c, d⟩ => ⟨r, μ', H', a, b, c, hq _ _ d⟩
  split at this
  · rename_i f as_ w' he
    exact this.mono fun e w'' ⟨v, h1, h2⟩ => ⟨v, h1, hm _ _ h2⟩
  · exact hm _ _ this
  · exact this.elim

def putA (tm : List LV) (d : Option Tmp) (v : LV) : List LV := match d with
  | some d => tm.set d v
  | none => tm

def awant (ops : List Oper) (tm : List LV) (o : Oper) : Option Bool := match o.guard with
  | none => some true
  | some (j, want) => match (ops[j]?).bind (·.dst) with
    | some d => match tm.getD d .junk with
      | .bool b => some (if want then b else !b)
      | .tup [] => some false
      | _ => none
    | none => none

def acall : Op → Option (Operand × List Operand)
  | .call c => match c.callee with
    | .value f => some (f, c.args.toList)
    | _ => none
  | _ => none

/-- One operation that is wanted. -/
def ADo (P : Program) (T : Tab) (o : Oper) (tm : List LV) (H : Hp) (K : List LV → Hp → Prop) : Prop :=
  match acall o.op with
  | some (f, xs) => match ev tm f with
    | .fn g caps => FunH P g (xs.map (ev tm) ++ caps) H fun r H' => K (putA tm o.dst r) H'
    | _ => False
  | none => match aop T (ev tm) H o.op with
    | some (r, H') => K (putA tm o.dst r) H'
    | none => False

def AOp (P : Program) (T : Tab) (ops : List Oper) (o : Oper) (tm : List LV) (H : Hp) (K : List LV → Hp → Prop) : Prop :=
  match awant ops tm o with
  | some b => (b = true → ADo P T o tm H K) ∧ (b = false → K (putA tm o.dst (.tup [])) H)
  | none => False

def AOps (P : Program) (T : Tab) (ops : List Oper) : List Oper → List LV → Hp → (List LV → Hp → Prop) → Prop
  | [], tm, H, K => K tm H
  | o :: rest, tm, H, K => AOp P T ops o tm H fun tm H => AOps P T ops rest tm H K

theorem AOps_cons {P : Program} {T : Tab} {ops : List Oper} {o : Oper} {rest : List Oper} {tm : List LV} {H : Hp} {K0 : List LV → Hp → Prop} (h : ∀ K : List LV → Hp → Prop, (∀ tm H, AOps P T ops rest tm H K0 → K tm H) → AOp P T ops o tm H K) : AOps P T ops (o :: rest) tm H K0 :=
  h _ fun _ _ h => h
theorem AOps_nil {P : Program} {T : Tab} {ops : List Oper} {tm : List LV} {H : Hp} {K0 : List LV → Hp → Prop} (h : K0 tm H) : AOps P T ops [] tm H K0 := h

theorem put_rel {μ : Nat → Pl} {H : Hp} {tm : List LV} {a : Act} (h : All2 (TR μ H) tm a.tmps.toList) (d : Option Tmp) {x : LV} {v : Value} (hx : TR μ H x v) : All2 (TR μ H) (putA tm d x) (a.put d v).tmps.toList := by
  cases d with
  | none => exact h
  | some d =>
    simp only [putA, Act.put, Array.toList_setIfInBounds]
    exact h.set d hx

theorem put_defers (a : Act) (d : Option Tmp) (v : Value) : (a.put d v).defers = a.defers := by cases d <;> rfl

theorem awant_sound {μ : Nat → Pl} {H : Hp} {tm : List LV} {a : Act} (h : All2 (TR μ H) tm a.tmps.toList) {ops : List Oper} {o : Oper} {b : Bool} (hw : awant ops tm o = some b) : Region.wanted o (yielded ops.toArray a.tmps) = b := by
  unfold awant at hw
  unfold Region.wanted
  cases hg : o.guard with
  | none => rw [hg] at hw; simp only [Option.some.injEq] at hw; exact hw
  | some jw =>
    obtain ⟨j, want⟩ := jw
    rw [hg] at hw
    simp only at hw ⊢
    cases hd : (ops[j]?).bind (·.dst) with
    | none => rw [hd] at hw; cases hw
    | some d =>
      rw [hd] at hw
      simp only at hw
      split at hw
      · rename_i b' hb
        have hlt : d < tm.length := by
          rcases Nat.lt_or_ge d tm.length with h | h
          · exact h
          · simp [List.getElem?_eq_none h] at hb
        obtain ⟨v, k1, k2⟩ := h.get d tm[d] (by simp [hlt])
        have e : tm[d] = .bool b' := by simpa [hlt] using hb
        rw [e] at k2
        have hv : v = .bool b' := k2
        subst hv
        have hy : yielded ops.toArray a.tmps j = some b' := by
          unfold yielded
          rw [List.getElem?_toArray, hd]
          simp only [Option.bind_some]
          rw [← Array.getElem?_toList, k1]
        rw [hy]
        simp only [Option.some.injEq] at hw
        subst hw
        cases want <;> cases b' <;> rfl
      · rename_i hb
        have hlt : d < tm.length := by
          rcases Nat.lt_or_ge d tm.length with h | h
          · exact h
          · simp [List.getElem?_eq_none h] at hb
        obtain ⟨v, k1, k2⟩ := h.get d tm[d] (by simp [hlt])
        have e : tm[d] = .tup [] := by simpa [hlt] using hb
        rw [e] at k2
        have hv : v = undef := by
          obtain ⟨vs, h1, h2⟩ := k2
          obtain ⟨l⟩ := vs
          cases l with
          | nil => exact h1
          | cons a l => exact h2.elim
        subst hv
        have hy : yielded ops.toArray a.tmps j = none := by
          unfold yielded
          rw [List.getElem?_toArray, hd]
          simp only [Option.bind_some]
          rw [← Array.getElem?_toList, k1]
          rfl
        rw [hy]
        simp only [Option.some.injEq] at hw
        subst hw
        rfl
      · cases hw

section
variable {P : Program} {T : Tab} (hT : TabOk P T)
include hT

theorem ADo_sound {o : Oper} {tm : List LV} {H : Hp} {K : List LV → Hp → Prop} (h : ADo P T o tm H K) {w0 w : World} {μ : Nat → Pl} {a : Act} (hR : Rep w0 μ H w) (ha : All2 (TR μ H) tm a.tmps.toList)
    {next : Act → World → Prop} {Q : Exit → Act → World → Prop} (hn : ∀ tm' H' μ' w' a', K tm' H' → Ext μ H μ' H' → Rep w0 μ' H' w' → All2 (TR μ' H') tm' a'.tmps.toList → a'.defers = a.defers → next a' w') : o.wp P a w next Q := by
  unfold ADo at h
  split at h
  · rename_i f xs hc
    split at h
    · rename_i g caps hf
      -- the call
      unfold acall at hc
      split at hc
      case h_2 => cases hc
      rename_i c hop
      split at hc
      case h_2 => cases hc
      rename_i f' hcal
      simp only [Option.some.injEq, Prod.mk.injEq] at hc
      obtain ⟨rfl, rfl⟩ := hc
      have hfv := TR_ev ha f'
      rw [hf] at hfv
      obtain ⟨vs, hfv, hcaps⟩ := hfv
      have hargs : All2 (TR μ H) (c.args.toList.map (ev tm) ++ caps) ((c.args.map a.eval) ++ vs).toList := by
        rw [Array.toList_append, Array.toList_map]
        exact (All2.maps (fun x => TR_ev ha x) c.args.toList).app (hcaps.mono fun _ _ => TR.of_BR)
      have hcall := h w0 μ w _ hR hargs
      have hrun : (execOp a.eval o).run P w = (callFunc g ((c.args.map a.eval) ++ vs)).run P w := by
        simp [execOp, hop, resolve, hcal, hfv, Deferred.ofValue, invoke]
      unfold Oper.wp
      rw [hrun]
      split at hcall
      · rename_i f2 as2 w' he
        rw [he]
        refine Calls.mono hcall fun e w'' ⟨v, h1, r, μ', H', k1, k2, k3, k4⟩ => ?_
        subst h1
        exact hn _ _ μ' w'' _ k4 k3 k1 (put_rel (ha.mono fun _ _ => TR.ext k3) o.dst k2) (put_defers _ _ _)
      · rename_i v w' he
        rw [he]
        obtain ⟨r, μ', H', k1, k2, k3, k4⟩ := hcall
        exact hn _ _ μ' w' _ k4 k3 k1 (put_rel (ha.mono fun _ _ => TR.ext k3) o.dst k2) (put_defers _ _ _)
      · exact hcall.elim
    · exact h.elim
  · split at h
    · rename_i r H' hop
      obtain ⟨w', μ', hv, k1, k2⟩ := aop_sound hT hR (fun x => TR_ev ha x) hop
      unfold Oper.wp
      rcases hv with ⟨v, hrun, hx⟩ | ⟨hrun, rfl⟩
      · rw [hrun]
        exact hn _ _ μ' w' _ h k2 k1 (put_rel (ha.mono fun _ _ => TR.ext k2) o.dst hx) (put_defers _ _ _)
      · rw [hrun]
        exact hn _ _ μ' w' _ h k2 k1 (put_rel (v := undef) (ha.mono fun _ _ => TR.ext k2) o.dst trivial) (put_defers _ _ _)
    · exact h.elim

theorem AOps_sound {ops : List Oper} : ∀ {l : List Oper} {tm : List LV} {H : Hp} {K : List LV → Hp → Prop}, AOps P T ops l tm H K → ∀ {w0 w : World} {μ : Nat → Pl} {a : Act}, Rep w0 μ H w → All2 (TR μ H) tm a.tmps.toList →
    ∀ {Q : Exit → Act → World → Prop}, (∀ tm' H' μ' w' a', K tm' H' → Ext μ H μ' H' → Rep w0 μ' H' w' → All2 (TR μ' H') tm' a'.tmps.toList → a'.defers = a.defers → Q .normal a' w') → wpList P ops.toArray Q l a w
  | [], tm, H, K, h, w0, w, μ, a, hR, ha, Q, hQ => hQ tm H μ w a h (Ext.refl _ _) hR ha rfl
  | o :: l, tm, H, K, h, w0, w, μ, a, hR, ha, Q, hQ => by
    simp only [AOps, AOp] at h
    simp only [wpList]
    split at h
    · rename_i b hw
      rw [awant_sound ha hw]
      cases b
      case false =>
        have h := h.2 rfl
        simp only [Bool.false_eq_true, if_false]
        exact AOps_sound h hR (put_rel (v := undef) ha o.dst (show TR μ H (.tup []) undef from ⟨#[], rfl, trivial⟩)) fun tm2 H2 μ2 w2 a2 q1 q2 q3 q4 q5 => hQ tm2 H2 μ2 w2 a2 q1 q2 q3 q4 (q5.trans (put_defers _ _ _))
      have h := h.1 rfl
      simp only [if_true]
      refine Or.inl (ADo_sound hT h hR ha fun tm' H' μ' w' a' hk hx hR' ha' hd => ?_)
      exact AOps_sound hk hR' ha' fun tm2 H2 μ2 w2 a2 q1 q2 q3 q4 q5 => hQ tm2 H2 μ2 w2 a2 q1 (hx.trans q2) q3 q4 (q5.trans hd)
    · exact h.elim
end

/-! Code. 'He': the heap when the function was entered. -/
def Post (P : Program) (w0 : World) (μe : Nat → Pl) (He : Hp) (Q : Exit → List LV → Hp → Prop) (e : Exit) (a : Act) (w : World) : Prop :=
  ∃ μ tm H, a.defers = [] ∧ Ext μe He μ H ∧ Rep w0 μ H w ∧ All2 (TR μ H) tm a.tmps.toList ∧ Q e tm H

def AW (P : Program) (He : Hp) (c : Code) (tm : List LV) (H : Hp) (Q : Exit → List LV → Hp → Prop) : Prop :=
  ∀ (w0 : World) (μe μ : Nat → Pl) (w : World) (a : Act), Ext μe He μ H → Rep w0 μ H w → All2 (TR μ H) tm a.tmps.toList → a.defers = [] → c.wp P (Post P w0 μe He Q) a w

/-- A state told more weakly. -/
def Wk (He : Hp) (tm : List LV) (H : Hp) (tm' : List LV) (H' : Hp) : Prop :=
  ∀ (w0 : World) (μe μ : Nat → Pl) (w : World) (vs : List Value), Ext μe He μ H → Rep w0 μ H w → All2 (TR μ H) tm vs → ∃ μ', Ext μe He μ' H' ∧ Rep w0 μ' H' w ∧ All2 (TR μ' H') tm' vs

section
variable {P : Program} {He : Hp} {tm : List LV} {H : Hp} {Q : Exit → List LV → Hp → Prop}

theorem Wk.refl : Wk He tm H tm H := fun w0 μe μ w vs h1 h2 h3 => ⟨μ, h1, h2, h3⟩
theorem Wk.trans {tm' tm'' : List LV} {H' H'' : Hp} (h : Wk He tm H tm' H') (k : Wk He tm' H' tm'' H'') : Wk He tm H tm'' H'' := fun w0 μe μ w vs h1 h2 h3 =>
  let ⟨μ', a, b, c⟩ := h w0 μe μ w vs h1 h2 h3
  k w0 μe μ' w vs a b c

theorem AW.mono {c : Code} {Q' : Exit → List LV → Hp → Prop} (h : AW P He c tm H Q) (hq : ∀ e tm H, Q e tm H → Q' e tm H) : AW P He c tm H Q' := fun w0 μe μ w a h1 h2 h3 h4 =>
  wp_mono (h w0 μe μ w a h1 h2 h3 h4) fun e a w ⟨μ, tm, H, p1, p2, p3, p4, p5⟩ => ⟨μ, tm, H, p1, p2, p3, p4, hq _ _ _ p5⟩

theorem AW.weak {c : Code} {tm' : List LV} {H' : Hp} (hw : Wk He tm H tm' H') (h : AW P He c tm' H' Q) : AW P He c tm H Q := fun w0 μe μ w a h1 h2 h3 h4 =>
  let ⟨μ', b1, b2, b3⟩ := hw w0 μe μ w a.tmps.toList h1 h2 h3
  h w0 μe μ' w a b1 b2 b3 h4

theorem AW_skip (h : Q .normal tm H) : AW P He .skip tm H Q := fun w0 μe μ w a h1 h2 h3 h4 => wp_skip ⟨μ, tm, H, h4, h1, h2, h3, h⟩
theorem AW_label {l : Nat} (h : Q .normal tm H) : AW P He (.label l) tm H Q := fun w0 μe μ w a h1 h2 h3 h4 => wp_label ⟨μ, tm, H, h4, h1, h2, h3, h⟩
theorem AW_exit {id : Nat} (h : Q (.exit id) tm H) : AW P He (.exit id) tm H Q := fun w0 μe μ w a h1 h2 h3 h4 => wp_exit ⟨μ, tm, H, h4, h1, h2, h3, h⟩
theorem AW_ret (h : Q .ret tm H) : AW P He .ret tm H Q := fun w0 μe μ w a h1 h2 h3 h4 => wp_ret ⟨μ, tm, H, h4, h1, h2, h3, h⟩

def thenA (K : List LV → Hp → Prop) (Q : Exit → List LV → Hp → Prop) : Exit → List LV → Hp → Prop
  | .normal, tm, H => K tm H
  | e, tm, H => Q e tm H

theorem AW_seq {x y : Code} (h : ∀ K : List LV → Hp → Prop, (∀ tm H, AW P He y tm H Q → K tm H) → AW P He x tm H (thenA K Q)) : AW P He (.seq x y) tm H Q := by
  intro w0 μe μ w a h1 h2 h3 h4
  refine wp_seq (wp_mono (h (fun tm H => AW P He y tm H Q) (fun _ _ h => h) w0 μe μ w a h1 h2 h3 h4) ?_)
  rintro e a w ⟨μ', tm', H', p1, p2, p3, p4, p5⟩
  cases e <;> simp only [thenA] at p5 <;> simp only [Exit.then]
  case normal => exact p5 w0 μe μ' w a p2 p3 p4 p1
  all_goals exact ⟨μ', tm', H', p1, p2, p3, p4, p5⟩

theorem AW_cond {c : Operand} {x y : Code} {b : Bool} (hc : ev tm c = .bool b) (ht : b = true → AW P He x tm H Q) (hf : b = false → AW P He y tm H Q) : AW P He (.cond c x y) tm H Q := by
  intro w0 μe μ w a h1 h2 h3 h4
  have := TR_ev h3 c
  rw [hc] at this
  refine wp_cond_split (t := b) this (fun e => ht e w0 μe μ w a h1 h2 h3 h4) (fun e => hf e w0 μe μ w a h1 h2 h3 h4)

def blockA (id : Nat) (Q : Exit → List LV → Hp → Prop) : Exit → List LV → Hp → Prop
  | .exit id', tm, H => if id' = id then Q .normal tm H else Q (.exit id') tm H
  | e, tm, H => Q e tm H

theorem AW_block {id : Nat} {c : Code} (h : AW P He c tm H (blockA id Q)) : AW P He (.block id c) tm H Q := by
  intro w0 μe μ w a h1 h2 h3 h4
  refine wp_block (wp_mono (h w0 μe μ w a h1 h2 h3 h4) ?_)
  rintro e a w ⟨μ', tm', H', p1, p2, p3, p4, p5⟩
  cases e <;> simp only [blockA] at p5 <;> simp only [Exit.inBlock]
  case exit id' =>
    split
    · rename_i hid; rw [if_pos hid] at p5; exact ⟨μ', tm', H', p1, p2, p3, p4, p5⟩
    · rename_i hid; rw [if_neg hid] at p5; exact ⟨μ', tm', H', p1, p2, p3, p4, p5⟩
  all_goals exact ⟨μ', tm', H', p1, p2, p3, p4, p5⟩

/-- A loop: at the head of every round the state is one of a family. -/
theorem AW_loop {c : Code} {ι : Type} (S : ι → List LV × Hp) (ok : ι → Prop) (m : ι → Nat) (i0 : ι) (h0 : ok i0) (hw : Wk He tm H (S i0).1 (S i0).2)
    (hr : ∀ i, ok i → ∀ K : List LV → Hp → Prop, (∀ tm' H' j, ok j → m j < m i → Wk He tm' H' (S j).1 (S j).2 → K tm' H') → AW P He c (S i).1 (S i).2 (thenA K Q)) : AW P He (.loop c) tm H Q := by
  intro w0 μe μ w a h1 h2 h3 h4
  obtain ⟨μ1, b1, b2, b3⟩ := hw w0 μe μ w a.tmps.toList h1 h2 h3
  have key : ∀ n i, m i = n → ok i → ∀ μ w a, Ext μe He μ (S i).2 → Rep w0 μ (S i).2 w → All2 (TR μ (S i).2) (S i).1 a.tmps.toList → a.defers = [] →
      ∀ (b : Frame) (k : List Item) (cs : List Frame), ∃ e a' w', Post P w0 μe He Q e a' w' ∧ Arrives P (lone (b.at a (.code c :: .inLoop c :: k)) cs w) b k cs e a' w' := by
    intro n
    induction n using Nat.strongRecOn with
    | _ n ih =>
      intro i hi hok μ w a g1 g2 g3 g4 b k cs
      have hround := hr i hok (fun tm' H' => ∃ j, ok j ∧ m j < m i ∧ Wk He tm' H' (S j).1 (S j).2) (fun tm' H' j a b c => ⟨j, a, b, c⟩) w0 μe μ w a g1 g2 g3 g4
      obtain ⟨e, a₁, w₁, hq, harr⟩ := hround b (.inLoop c :: k) cs
      obtain ⟨μ', tm', H', p1, p2, p3, p4, p5⟩ := hq
      cases e with
      | normal =>
        obtain ⟨j, q1, q2, q3⟩ := p5
        obtain ⟨μ2, r1, r2, r3⟩ := q3 w0 μe μ' w₁ a₁.tmps.toList p2 p3 p4
        obtain ⟨e₂, a₂, w₂, hq₂, harr₂⟩ := ih (m j) (hi ▸ q2) j rfl q1 μ2 w₁ a₁ r1 r2 r3 p1 b k cs
        exact ⟨e₂, a₂, w₂, hq₂, .of_steps (Steps.trans harr (.one step_inLoop)) harr₂⟩
      | exit id => exact ⟨_, a₁, w₁, ⟨μ', tm', H', p1, p2, p3, p4, p5⟩, .pass (x := .inLoop c) rfl (fun _ _ => .inl (by simp)) harr⟩
      | goto l => exact ⟨_, a₁, w₁, ⟨μ', tm', H', p1, p2, p3, p4, p5⟩, .pass (x := .inLoop c) rfl (fun _ _ => .inl (by simp)) harr⟩
      | ret => exact ⟨_, a₁, w₁, ⟨μ', tm', H', p1, p2, p3, p4, p5⟩, .pass (x := .inLoop c) rfl (fun _ _ => .inl (by simp)) harr⟩
      | panic ch => exact ⟨_, a₁, w₁, ⟨μ', tm', H', p1, p2, p3, p4, p5⟩, .pass (x := .inLoop c) rfl (fun _ _ => .inl (by simp)) harr⟩
      | outgrown => exact ⟨_, a₁, w₁, ⟨μ', tm', H', p1, p2, p3, p4, p5⟩, .pass (x := .inLoop c) rfl (fun _ _ => .inl (by simp)) harr⟩
  intro b k cs
  obtain ⟨e, a', w', hq, harr⟩ := key _ i0 rfl h0 μ1 w a b1 b2 b3 h4 b k cs
  exact ⟨e, a', w', hq, .of_steps (.one step_loop) harr⟩

theorem AW_region {T : Tab} (hT : TabOk P T) {id : Nat} {l : List Oper} (h : AOps P T l l tm H (Q .normal)) : AW P He (.region id l.toArray false) tm H Q := by
  intro w0 μe μ w a h1 h2 h3 h4
  refine wp_region_list ?_
  rw [List.toList_toArray]
  exact AOps_sound hT h h2 h3 fun tm' H' μ' w' a' q1 q2 q3 q4 q5 => ⟨μ', tm', H', q5.trans h4, h1.trans q2, q3, q4, q1⟩
end
end Go.Proofs.Ytpbafacehmjdmaa

namespace Go.Proofs.Ytpbafacehmjdmaa
open Go.RowKit
set_option linter.unusedSimpArgs false
set_option linter.unusedVariables false
set_option linter.unusedSectionVars false

/-! Slots forgotten. -/
def JL : List LV → List LV → Prop
  | [], [] => True
  | a :: us, b :: vs => (b = .junk ∨ a = b) ∧ JL us vs
  | _, _ => False

theorem JL.rel {μ : Nat → Pl} {H : Hp} : ∀ {us vs : List LV} {ws : List Value}, JL us vs → All2 (TR μ H) us ws → All2 (TR μ H) vs ws
  | [], [], [], _, _ => trivial
  | a :: us, b :: vs, w :: ws, h, k => ⟨by rcases h.1 with rfl | rfl; exact trivial; exact k.1, JL.rel h.2 k.2⟩
  | [], _ :: _, _, h, _ => h.elim
  | _ :: _, [], _, h, _ => h.elim
  | [], [], _ :: _, _, k => k.elim
  | _ :: _, _ :: _, [], _, k => k.elim

theorem JL.refl : ∀ (us : List LV), JL us us
  | [] => trivial
  | a :: us => ⟨Or.inr rfl, JL.refl us⟩

theorem Wk.junk {He : Hp} {tm tm' : List LV} {H : Hp} (h : JL tm tm') : Wk He tm H tm' H := fun w0 μe μ w vs h1 h2 h3 => ⟨μ, h1, h2, h.rel h3⟩

/-! Objects renamed, or let go. -/
def renB (σ : Nat → Option Nat) : LV → LV
  | .ptr id ver off => match σ id with
    | some j => .ptr j ver off
    | none => .junk
  | .sl id ver off n cap => match σ id with
    | some j => .sl j ver off n cap
    | none => .junk
  | x => x
def renL (σ : Nat → Option Nat) : LV → LV
  | .agg cs => .agg (cs.map (renB σ))
  | .fn f cs => .fn f (cs.map (renB σ))
  | x => renB σ x
def renT (σ : Nat → Option Nat) : LV → LV
  | .tup cs => .tup (cs.map (renL σ))
  | x => renL σ x
def renO (σ : Nat → Option Nat) (o : AO) : AO := { o with cs := o.cs.map (renB σ) }

structure Ren (σ : Nat → Option Nat) (H H' : Hp) : Prop where
  src : ∀ (j : Nat) (o' : AO), H'[j]? = some o' → ∃ (i : Nat) (o : AO), σ i = some j ∧ H[i]? = some o ∧ o' = renO σ o
  inj : ∀ i i' j, σ i = some j → σ i' = some j → i = i'
  lt : ∀ (i j : Nat) (o : AO), σ i = some j → H[i]? = some o → j < H'.length

open Classical in
noncomputable def renMu (σ : Nat → Option Nat) (μ : Nat → Pl) (j : Nat) : Pl := if h : ∃ i, σ i = some j then μ (Classical.choose h) else ⟨0, 0, 0⟩

theorem renMu_at {σ : Nat → Option Nat} (hinj : ∀ i i' j, σ i = some j → σ i' = some j → i = i') (μ : Nat → Pl) {i j : Nat} (h : σ i = some j) : renMu σ μ j = μ i := by
  unfold renMu
  have he : ∃ i, σ i = some j := ⟨i, h⟩
  rw [dif_pos he]
  rw [hinj _ _ _ (Classical.choose_spec he) h]

theorem Ren.at {σ : Nat → Option Nat} {H H' : Hp} (h : Ren σ H H') {i j : Nat} {o : AO} (hs : σ i = some j) (ho : H[i]? = some o) : H'[j]? = some (renO σ o) := by
  have hl := h.lt i j o hs ho
  obtain ⟨i', o', h1, h2, h3⟩ := h.src j H'[j] (by simp [hl])
  have e := h.inj _ _ _ hs h1
  subst e
  rw [ho] at h2; cases h2
  rw [← h3]; simp [hl]

theorem BR.ren {σ : Nat → Option Nat} {H H' : Hp} (h : Ren σ H H') {μ : Nat → Pl} {x : LV} {v : Value} (hx : BR μ H x v) : BR (renMu σ μ) H' (renB σ x) v := by
  cases x with
  | ptr id ver off =>
    obtain ⟨o, a, h1, h2, h3, h4⟩ := hx
    simp only [renB]
    split
    · rename_i j hj
      exact ⟨_, a, h.at hj h1, h2, h3, fun e => by rw [renMu_at h.inj μ hj]; exact h4 e⟩
    · trivial
  | sl id ver off n cap =>
    obtain ⟨o, a, c, h1, h2, h3, h4⟩ := hx
    simp only [renB]
    split
    · rename_i j hj
      refine ⟨_, a, c, h.at hj h1, h2, h3, fun e => ?_⟩
      rw [renMu_at h.inj μ hj]; exact h4 e
    · trivial
  | _ => exact hx

theorem LR.ren {σ : Nat → Option Nat} {H H' : Hp} (h : Ren σ H H') {μ : Nat → Pl} {x : LV} {v : Value} (hx : LR μ H x v) : LR (renMu σ μ) H' (renL σ x) v := by
  cases x with
  | agg cs => obtain ⟨vs, h1, h2⟩ := hx; exact ⟨vs, h1, All2.map_left _ (h2.mono fun _ _ k => BR.ren h k)⟩
  | fn f cs => obtain ⟨vs, h1, h2⟩ := hx; exact ⟨vs, h1, All2.map_left _ (h2.mono fun _ _ k => BR.ren h k)⟩
  | tup cs => exact hx.elim
  | junk => exact LR.of_BR (BR.ren (x := .junk) h hx)
  | bool b => exact LR.of_BR (BR.ren (x := .bool b) h hx)
  | int k n => exact LR.of_BR (BR.ren (x := .int k n) h hx)
  | flt k o => exact LR.of_BR (BR.ren (x := .flt k o) h hx)
  | nils => exact LR.of_BR (BR.ren (x := .nils) h hx)
  | emp => exact LR.of_BR (BR.ren (x := .emp) h hx)
  | ptr a b c => exact LR.of_BR (BR.ren (x := .ptr a b c) h hx)
  | sl a b c d e => exact LR.of_BR (BR.ren (x := .sl a b c d e) h hx)

theorem TR.ren {σ : Nat → Option Nat} {H H' : Hp} (h : Ren σ H H') {μ : Nat → Pl} {x : LV} {v : Value} (hx : TR μ H x v) : TR (renMu σ μ) H' (renT σ x) v := by
  cases x with
  | tup cs => obtain ⟨vs, h1, h2⟩ := hx; exact ⟨vs, h1, All2.map_left _ (h2.mono fun _ _ k => LR.ren h k)⟩
  | junk => exact TR.of_LR (LR.ren (x := .junk) h hx)
  | bool b => exact TR.of_LR (LR.ren (x := .bool b) h hx)
  | int k n => exact TR.of_LR (LR.ren (x := .int k n) h hx)
  | flt k o => exact TR.of_LR (LR.ren (x := .flt k o) h hx)
  | nils => exact TR.of_LR (LR.ren (x := .nils) h hx)
  | emp => exact TR.of_LR (LR.ren (x := .emp) h hx)
  | ptr a b c => exact TR.of_LR (LR.ren (x := .ptr a b c) h hx)
  | sl a b c d e => exact TR.of_LR (LR.ren (x := .sl a b c d e) h hx)
  | agg cs => exact TR.of_LR (LR.ren (x := .agg cs) h hx)
  | fn f cs => exact TR.of_LR (LR.ren (x := .fn f cs) h hx)

theorem Wk.ren {He : Hp} {tm : List LV} {H H' : Hp} (σ : Nat → Option Nat) (h : Ren σ H H') (hid : ∀ i, i < He.length → σ i = some i) : Wk He tm H (tm.map (renT σ)) H' := by
  intro w0 μe μ w vs hx hR hv
  refine ⟨renMu σ μ, ?_, ⟨hR.bel, ?_, ?_, ?_, ?_⟩, All2.map_left _ (hv.mono fun _ _ k => TR.ren h k)⟩
  · intro i o ho
    obtain ⟨o1, h1, h2, h3, h4, h5, h6⟩ := hx i o ho
    have hi : i < He.length := by
      rcases Nat.lt_or_ge i He.length with h | h
      · exact h
      · simp [List.getElem?_eq_none h] at ho
    exact ⟨_, h.at (hid i hi) h1, h2, h3, h4, h5, fun e => by rw [renMu_at h.inj μ (hid i hi)]; exact h6 e⟩
  · intro j o' ho' k c hc
    obtain ⟨i, o, h1, h2, rfl⟩ := h.src j o' ho'
    simp only [renO, List.getElem?_map, Option.map_eq_some_iff] at hc
    obtain ⟨c0, hc0, rfl⟩ := hc
    obtain ⟨v, k1, k2, k3⟩ := hR.cell i o h2 k c0 hc0
    exact ⟨v, by rw [renMu_at h.inj μ h1]; exact k1, k2, BR.ren h k3⟩
  · intro j o' ho' hro
    obtain ⟨i, o, h1, h2, rfl⟩ := h.src j o' ho'
    rw [renMu_at h.inj μ h1]
    rcases hR.ro i o h2 hro with h0 | h0
    · exact Or.inl (by simp [renO, h0])
    · exact Or.inr h0
  · intro j o' ho' hro
    obtain ⟨i, o, h1, h2, rfl⟩ := h.src j o' ho'
    rw [renMu_at h.inj μ h1]
    simpa [renO] using hR.rw i o h2 hro
  · intro j j' o' p' ho' hp' hro hro' hzi hzj he
    obtain ⟨i, o, h1, h2, rfl⟩ := h.src j o' ho'
    obtain ⟨i', p, g1, g2, rfl⟩ := h.src j' p' hp'
    rw [renMu_at h.inj μ h1, renMu_at h.inj μ g1] at he
    rw [renMu_at h.inj μ h1] at hzi
    rw [renMu_at h.inj μ g1] at hzj
    have := hR.dj i i' o p h2 g2 hro hro' hzi hzj he
    subst this
    rw [h1] at g1
    exact Option.some.inj g1

/-! What refers to nothing behind 'n'. -/
def bnd (n : Nat) : LV → Prop
  | .ptr id _ _ => id < n
  | .sl id _ _ _ _ => id < n
  | _ => True
def Closed (H : Hp) : Prop := ∀ (i : Nat) (o : AO), H[i]? = some o → ∀ c ∈ o.cs, bnd H.length c

theorem bnd_of_BR {μ : Nat → Pl} {H : Hp} {x : LV} {v : Value} (h : BR μ H x v) : bnd H.length x := by
  cases x <;> try trivial
  case ptr id ver off =>
    obtain ⟨o, a, h1, _⟩ := h
    rcases Nat.lt_or_ge id H.length with h | h
    · exact h
    · simp [List.getElem?_eq_none h] at h1
  case sl id ver off n cap =>
    obtain ⟨o, a, c, h1, _⟩ := h
    rcases Nat.lt_or_ge id H.length with h | h
    · exact h
    · simp [List.getElem?_eq_none h] at h1

theorem Rep.closed {w0 w : World} {μ : Nat → Pl} {H : Hp} (h : Rep w0 μ H w) : Closed H := by
  intro i o ho c hc
  obtain ⟨j, hj, e⟩ := List.getElem_of_mem hc
  obtain ⟨v, _, _, k⟩ := h.cell i o ho j c (by rw [← e]; simp [hj])
  exact bnd_of_BR k

/-- Objects kept: the first n, and those behind them that are listed. -/
def keepσ (n : Nat) (js : List Nat) (i : Nat) : Option Nat := if i < n then some i else (js.idxOf? (i - n)).map (· + n)

theorem renB_keep {n : Nat} {js : List Nat} {c : LV} (h : bnd n c) : renB (keepσ n js) c = c := by
  cases c <;> try rfl
  case ptr id ver off => simp only [bnd] at h; simp [renB, keepσ, h]
  case sl id ver off m cap => simp only [bnd] at h; simp [renB, keepσ, h]

theorem idxOf?_some {js : List Nat} {a k : Nat} (h : js.idxOf? a = some k) : js[k]? = some a := by
  induction js generalizing k with
  | nil => simp at h
  | cons x js ih =>
    rw [List.idxOf?_cons] at h
    split at h
    · rename_i e
      simp at h e
      subst h; subst e; rfl
    · simp only [Option.map_eq_some_iff] at h
      obtain ⟨k', h1, rfl⟩ := h
      simpa using ih h1

theorem idxOf?_get {js : List Nat} (hn : js.Nodup) {a k : Nat} (h : js[k]? = some a) : js.idxOf? a = some k := by
  induction js generalizing k with
  | nil => simp at h
  | cons x js ih =>
    rw [List.idxOf?_cons]
    cases k with
    | zero => simp at h; simp [h]
    | succ k =>
      simp only [List.getElem?_cons_succ] at h
      have hne : ¬ (x == a) = true := by
        intro e
        have e' : x = a := by simpa using e
        subst e'
        exact (List.nodup_cons.1 hn).1 (List.mem_of_getElem? h)
      rw [if_neg hne, ih (List.nodup_cons.1 hn).2 h]
      rfl

theorem Ren.keep {H1 K : Hp} {js : List Nat} (hn : js.Nodup) (hj : ∀ j ∈ js, j < K.length) (hc : ∀ (i : Nat) (o : AO), H1[i]? = some o → ∀ c ∈ o.cs, bnd H1.length c) :
    Ren (keepσ H1.length js) (H1 ++ K) (H1 ++ js.map fun j => renO (keepσ H1.length js) (K.getD j ⟨0, true, 0, 0, []⟩)) := by
  have hren : ∀ (i : Nat) (o : AO), H1[i]? = some o → renO (keepσ H1.length js) o = o := by
    intro i o ho
    have : o.cs.map (renB (keepσ H1.length js)) = o.cs := by
      conv => rhs; rw [← List.map_id o.cs]
      exact List.map_congr_left fun c hcc => renB_keep (hc i o ho c hcc)
    unfold renO
    rw [this]
  refine ⟨?_, ?_, ?_⟩
  · intro j o' ho'
    rcases Nat.lt_or_ge j H1.length with h | h
    · rw [List.getElem?_append_left h] at ho'
      exact ⟨j, o', by simp [keepσ, h], by rw [List.getElem?_append_left h]; exact ho', (hren j o' ho').symm⟩
    · rw [List.getElem?_append_right h, List.getElem?_map, Option.map_eq_some_iff] at ho'
      obtain ⟨a, ha, rfl⟩ := ho'
      have hal : a < K.length := hj a (List.mem_of_getElem? ha)
      refine ⟨H1.length + a, K[a], ?_, by simp [hal], by simp [hal]⟩
      simp only [keepσ]
      rw [if_neg (by omega), Nat.add_sub_cancel_left, idxOf?_get hn ha]
      simp; omega
  · intro i i' j h h'
    simp only [keepσ] at h h'
    split at h
    · split at h'
      · simp at h h'; omega
      · simp only [Option.map_eq_some_iff] at h'
        obtain ⟨k, _, rfl⟩ := h'
        simp at h; omega
    · split at h'
      · simp only [Option.map_eq_some_iff] at h
        obtain ⟨k, _, rfl⟩ := h
        simp at h'; omega
      · simp only [Option.map_eq_some_iff] at h h'
        obtain ⟨k, h1, rfl⟩ := h
        obtain ⟨k', h2, e⟩ := h'
        have : k' = k := by omega
        subst this
        have e1 := idxOf?_some h1
        have e2 := idxOf?_some h2
        rw [e1] at e2
        have := Option.some.inj e2
        omega
  · intro i j o h ho
    simp only [keepσ] at h
    split at h
    · simp at h; simp; omega
    · simp only [Option.map_eq_some_iff] at h
      obtain ⟨k, h1, rfl⟩ := h
      have := idxOf?_some h1
      have hk : k < js.length := by
        rcases Nat.lt_or_ge k js.length with h | h
        · exact h
        · simp [List.getElem?_eq_none h] at this
      simp; omega

/-- Behind the heap 'H1' only what is listed is kept. -/
theorem Wk.keep {He H1 K : Hp} {tm : List LV} (js : List Nat) (hl : He.length ≤ H1.length) (hn : js.Nodup) (hj : ∀ j ∈ js, j < K.length) (hc : ∀ (i : Nat) (o : AO), H1[i]? = some o → ∀ c ∈ o.cs, bnd H1.length c) :
    Wk He tm (H1 ++ K) (tm.map (renT (keepσ H1.length js))) (H1 ++ js.map fun j => renO (keepσ H1.length js) (K.getD j ⟨0, true, 0, 0, []⟩)) :=
  Wk.ren _ (Ren.keep hn hj hc) fun i hi => by simp [keepσ]; omega

/-! Results, the whole function. -/
def aresL (T : Tab) (tm : List LV) (H : Hp) : List ResultVar → Option (List LV)
  | [] => some []
  | .tmp t :: rs => match tm.getD t .junk with
    | .tup _ => none
    | x => (aresL T tm H rs).map (x :: ·)
  | .cell a t :: rs => match T t, tm.getD a .junk with
    | some te, .ptr id ver off => match (if te.td.agg then (hgets H id ver off te.sz).map LV.agg else hget H id ver off) with
      | some x => match x with
        | .tup _ => none
        | x => (aresL T tm H rs).map (x :: ·)
      | none => none
    | _, _ => none
def resA (T : Tab) (tm : List LV) (H : Hp) (rs : List ResultVar) : Option LV := match aresL T tm H rs with
  | some [x] => some x
  | some xs => some (.tup xs)
  | none => none

theorem LR_of_TR {μ : Nat → Pl} {H : Hp} {x : LV} {v : Value} (h : TR μ H x v) (hn : ∀ cs, x ≠ .tup cs) : LR μ H x v := by
  cases x <;> first | exact h | exact absurd rfl (hn _)

def resF (tmps : Array Value) : ResultVar → Sem Value
  | .tmp t => pure (tmps.getD t undef)
  | .cell a t => do loadVar t (← asAddr (tmps.getD a undef))

theorem results_eq (fn : Func) (tmps : Array Value) : results fn tmps = (do
    let vs ← fn.results.mapM (resF tmps)
    pure (if h : vs.size = 1 then vs[0] else .tuple vs)) := by
  unfold results
  congr 1

section
variable {P : Program} {T : Tab} (hT : TabOk P T)
include hT

theorem aresL_sound {w0 w : World} {μ : Nat → Pl} {H : Hp} (hR : Rep w0 μ H w) {tm : List LV} {a : Act} (ha : All2 (TR μ H) tm a.tmps.toList) : ∀ {rs : List ResultVar} {xs : List LV}, aresL T tm H rs = some xs →
    ∃ vs, (rs.mapM (resF a.tmps)).run P w = .ok vs w ∧ All2 (LR μ H) xs vs
  | [], xs, h => by
    simp only [aresL, Option.some.injEq] at h
    subst h
    exact ⟨[], rfl, trivial⟩
  | .tmp t :: rs, xs, h => by
    simp only [aresL] at h
    split at h
    · cases h
    · rename_i hnt
      simp only [Option.map_eq_some_iff] at h
      obtain ⟨ys, h1, rfl⟩ := h
      obtain ⟨vs, k1, k2⟩ := aresL_sound hR ha h1
      have := TR_ev ha (.tmp t)
      refine ⟨a.tmps.getD t undef :: vs, ?_, LR_of_TR this (fun cs e => hnt cs e), k2⟩
      rw [List.mapM_cons]
      simp [resF, k1]
  | .cell x t :: rs, xs, h => by
    simp only [aresL] at h
    split at h
    · rename_i te id ver off ht hp
      split at h
      · rename_i y hy
        split at h
        · cases h
        · rename_i hnt
          simp only [Option.map_eq_some_iff] at h
          obtain ⟨ys, h1, rfl⟩ := h
          obtain ⟨vs, k1, k2⟩ := aresL_sound hR ha h1
          have hpv := TR_ev ha (.tmp x)
          have hpe : ev tm (.tmp x) = .ptr id ver off := hp
          rw [hpe] at hpv
          have hld : (if te.td.agg then (hgets H id ver off te.sz).map fun cs => (LV.agg cs, H) else (hget H id ver off).map (·, H)) = some (y, H) := by
            by_cases hag : te.td.agg = true
            · rw [if_pos hag] at hy ⊢
              simp only [Option.map_eq_some_iff] at hy ⊢
              obtain ⟨cs, e1, e2⟩ := hy
              exact ⟨cs, e1, by rw [e2]⟩
            · rw [if_neg hag] at hy ⊢
              rw [hy]; rfl
          obtain ⟨_, u, g1, g2⟩ := run_loadAt hT hR ht hpv hld
          obtain ⟨o, ad', _, _, hv, _⟩ := hpv
          have hv' : a.tmps.getD x undef = .pointer (some ad') := hv
          have g1' : (loadVar t ad').run P w = .ok u w := by
            have hv2 : a.eval (.tmp x) = .pointer (some ad') := hv
            rw [hv2] at g1
            simpa [Instr.loadAt, Instr.sureAddr] using g1
          refine ⟨u :: vs, ?_, LR_of_TR g2 (fun cs e => hnt cs e), k2⟩
          rw [List.mapM_cons]
          have e1 : (resF a.tmps (.cell x t)).run P w = .ok u w := by simp only [resF]; rw [hv']; simpa [asAddr] using g1'
          simp [e1, k1]
      · cases h
    · cases h

theorem resA_sound {w0 w : World} {μ : Nat → Pl} {H : Hp} (hR : Rep w0 μ H w) {tm : List LV} {a : Act} (ha : All2 (TR μ H) tm a.tmps.toList) {fn : Func} {r : LV} (h : resA T tm H fn.results.toList = some r) :
    ∃ v, (results fn a.tmps).run P w = .ok v w ∧ TR μ H r v := by
  unfold resA at h
  have hrun : ∀ vs : List Value, (fn.results.toList.mapM (resF a.tmps)).run P w = .ok vs w →
      (results fn a.tmps).run P w = .ok (if h : vs.toArray.size = 1 then vs.toArray[0] else .tuple vs.toArray) w := by
    intro vs hvs
    rw [results_eq, Sem.run_bind, Array.mapM_eq_mapM_toList, Sem.run_map, hvs]
    rfl
  split at h
  · rename_i x hx
    cases h
    obtain ⟨vs, k1, k2⟩ := aresL_sound hT hR ha hx
    match vs, k2 with
    | [v], k2 => exact ⟨v, hrun _ k1, TR.of_LR k2.1⟩
  · rename_i xs hne hx
    cases h
    obtain ⟨vs, k1, k2⟩ := aresL_sound hT hR ha hx
    have hl := k2.len
    have hn1 : ¬ vs.toArray.size = 1 := by
      intro e
      have e1 : xs.length = 1 := by simpa [hl] using e
      match xs, e1 with
      | [x], _ => exact hne x rfl
    refine ⟨.tuple vs.toArray, ?_, vs.toArray, rfl, by simpa using k2⟩
    rw [hrun _ k1, dif_neg hn1]
  · cases h

/-- What is to be shown at the end of a body. -/
def EndA (T : Tab) (He : Hp) (rs : List ResultVar) (Q : LV → Hp → Prop) (e : Exit) (tm : List LV) (H : Hp) : Prop :=
  (e = .normal ∨ e = .ret) ∧ ∃ r0 r H', resA T tm H rs = some r0 ∧ Wk He [r0] H [r] H' ∧ Q r H'

theorem FunH_body {g : FuncId} {fn : Func} {c : Code} {nt : Nat} {args : List LV} {H : Hp} {Q : LV → Hp → Prop} (hf : P.funcs[g]? = some fn) (hb : fn.body = some c) (hn : (fn.name == "runtime.NumGoroutine") = false) (hnt : fn.ntmps = nt)
    (h : Closed H → (∀ x ∈ args, ∀ y, x = y → bnd H.length y) → AW P H c (args ++ List.replicate (nt - args.length) .junk) H (EndA T H fn.results.toList Q)) : FunH P g args H Q := by
  intro w0 μ w cargs hR ha
  have hen : (callFunc g cargs).run P w = .ok (.enter g cargs) w := enter_of hf hn hb cargs w
  rw [hen]
  have hlen : args.length = cargs.size := by have := ha.len; rwa [Array.length_toList] at this
  refine calls_of_wp hf hb (wp_mono (h hR.closed ?_ w0 μ μ w _ (Ext.refl _ _) hR ?_ rfl) ?_)
  · intro x hx y e
    subst e
    obtain ⟨i, hi, e⟩ := List.getElem_of_mem hx
    obtain ⟨v, _, k⟩ := ha.get i x (by rw [← e]; simp [hi])
    cases x <;> first | trivial | exact bnd_of_BR k
  · rw [Array.toList_append]
    refine ha.app ?_
    rw [hnt, hlen, Array.toList_replicate]
    refine All2.of_get (by simp) fun i a b h1 _ => ?_
    rw [List.getElem?_replicate] at h1
    split at h1 <;> cases h1
    trivial
  · rintro e a w' ⟨μ', tm, H', p1, p2, p3, p4, he, r0, r, H'', q1, q2, q3⟩
    obtain ⟨v, k1, k2⟩ := resA_sound hT p3 p4 q1
    obtain ⟨μ2, g1, g2, g3⟩ := q2 w0 μ μ' w' [v] p2 p3 ⟨k2, trivial⟩
    have hfin : ∃ v, (results fn a.tmps).run P w' = .ok v w' ∧ ∃ v', Ending.returned v = .returned v' ∧ Comes1 P w0 μ H Q v' w' := ⟨v, k1, v, rfl, r, μ2, H'', g2, g3.1, g1, q3⟩
    rcases he with rfl | rfl
    · exact ⟨p1, hfin⟩
    · exact ⟨p1, hfin⟩
end
end Go.Proofs.Ytpbafacehmjdmaa

