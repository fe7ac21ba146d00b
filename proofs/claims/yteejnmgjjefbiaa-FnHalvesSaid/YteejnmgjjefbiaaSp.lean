/- Stable sorting, plainly: rotations, what a step keeps. -/
import Derived.Test.YteejnmgjjefbiaaSo
namespace Go.Proofs.Yteejnmgjjefbiaa
open Go.RowKit
set_option linter.unusedSimpArgs false
set_option linter.unusedVariables false
set_option linter.unusedSectionVars false
set_option maxRecDepth 100000

section
variable {α : Type} [Inhabited α]
def rotD (D : List α) (s m e : Nat) : List α := D.take s ++ rg D m e ++ rg D s m ++ D.drop e
theorem rg_of (P Q R : List α) {p q : Nat} (hp : p = P.length) (hq : q = P.length + Q.length) : rg (P ++ Q ++ R) p q = Q := by
  subst hp; subst hq; unfold rg; simp
theorem take_rg (D : List α) {a s : Nat} (h1 : a ≤ s) : D.take s = D.take a ++ rg D a s := by
  rw [← rg_take, ← rg_take, ← rg_split D (by omega) h1]
theorem drop_rg (D : List α) {e b : Nat} (h1 : e ≤ b) : D.drop e = rg D e b ++ D.drop b := by
  unfold rg
  have : D.drop b = (D.drop e).drop (b - e) := by rw [List.drop_drop, show e + (b - e) = b by omega]
  rw [this, List.take_append_drop]
variable {D : List α} {a s m e b mid : Nat}
theorem rot_len (h1 : s ≤ m) (h2 : m ≤ e) (h3 : e ≤ D.length) : (rotD D s m e).length = D.length := by
  unfold rotD; simp [rg_len, rg_len h3, rg_len (show m ≤ D.length by omega)]; omega
theorem rot_rg1 (h0 : a ≤ s) (h1 : s ≤ m) (h2 : m ≤ e) (h3 : e ≤ D.length) : rg (rotD D s m e) a s = rg D a s := by
  unfold rotD
  rw [take_rg D h0, show D.take a ++ rg D a s ++ rg D m e ++ rg D s m ++ D.drop e = D.take a ++ rg D a s ++ (rg D m e ++ rg D s m ++ D.drop e) by simp]
  exact rg_of _ _ _ (by simp; omega) (by rw [rg_len (by omega)]; simp; omega)
theorem rot_rg2 (hmid : s + (e - m) = mid) (h1 : s ≤ m) (h2 : m ≤ e) (h3 : e ≤ D.length) : rg (rotD D s m e) s mid = rg D m e := by
  unfold rotD
  rw [show D.take s ++ rg D m e ++ rg D s m ++ D.drop e = D.take s ++ rg D m e ++ (rg D s m ++ D.drop e) by simp]
  exact rg_of _ _ _ (by simp; omega) (by rw [rg_len h3]; simp; omega)
theorem rot_rg3 (hmid : s + (e - m) = mid) (h1 : s ≤ m) (h2 : m ≤ e) (h3 : e ≤ D.length) : rg (rotD D s m e) mid e = rg D s m := by
  unfold rotD
  exact rg_of _ _ _ (by simp [rg_len h3]; omega) (by simp [rg_len h3, rg_len (show m ≤ D.length by omega)]; omega)
theorem rot_rg4 (h1 : s ≤ m) (h2 : m ≤ e) (h3 : e ≤ b) (h4 : b ≤ D.length) : rg (rotD D s m e) e b = rg D e b := by
  unfold rotD
  rw [drop_rg D h3, show D.take s ++ rg D m e ++ rg D s m ++ (rg D e b ++ D.drop b) = (D.take s ++ rg D m e ++ rg D s m) ++ rg D e b ++ D.drop b by simp]
  exact rg_of _ _ _ (by simp [rg_len (show e ≤ D.length by omega), rg_len (show m ≤ D.length by omega)]; omega) (by simp [rg_len (show e ≤ D.length by omega), rg_len (show m ≤ D.length by omega), rg_len h4]; omega)
theorem asc_upd_hi {key : α → Int} {p q : Nat} (h1 : a ≤ b) (h2 : b ≤ p) (h3 : q ≤ D.length) (h4 : b ≤ D.length) (h : Asc key (rg D p q)) : Asc key (rg (upd key D a b) p q) := by
  refine asc_rg (by rw [upd_len h1 h4]; exact h3) fun i i1 i2 => ?_
  rw [upd_hi h1 h4 (by omega) (by omega), upd_hi h1 h4 (by omega) (by omega)]
  exact rg_asc h3 h (by omega) (by omega) i2
end
section
variable {α : Type} [Inhabited α] {key : α → Int}
theorem chn_0 (D : List α) (B : Nat) : chn key D B 0 := fun i h => by omega
theorem chn_ext {D : List α} {B a n t : Nat} (h : chn key D B n) (h2 : chn key D (2 * B) a) (ha : a = t * (2 * B)) (hn : n ≤ a + B) : chn key D (2 * B) n := by
  intro i i1 i2 i3
  rcases Nat.lt_trichotomy (i + 1) a with h3 | h3 | h3
  · exact h2 i h3 i2 i3
  · exact absurd (h3.trans ha) (i3 t)
  · exact h i i1 i2 (no_mult (a := a) (t := 2 * t) (by rw [ha, Nat.mul_comm 2 t, Nat.mul_assoc]) (by omega) (by omega))
/-- What a step of sorting keeps: the length, and what is equal in its order. -/
def Kp (key : α → Int) (D0 D : List α) : Prop := D.length = D0.length ∧ ∀ c, cls key c D = cls key c D0
theorem Kp.refl (D : List α) : Kp key D D := ⟨rfl, fun _ => rfl⟩
theorem Kp.upd {D0 D : List α} {a b : Nat} (h : Kp key D0 D) (h1 : a ≤ b) (h2 : b ≤ D.length) : Kp key D0 (upd key D a b) :=
  ⟨(upd_len h1 h2).trans h.1, fun c => (upd_cls h1 c).trans (h.2 c)⟩
theorem Kp.srt {D0 D : List α} (h : Kp key D0 D) (ha : Asc key D) : D = srt key D0 := srt_eq ha h.2
end
end Go.Proofs.Yteejnmgjjefbiaa
