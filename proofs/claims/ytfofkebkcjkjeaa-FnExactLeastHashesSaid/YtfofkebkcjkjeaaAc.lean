/- The abstract machine's operations are sound: those that touch no memory. -/
import Derived.Test.YtfofkebkcjkjeaaAb
import Derived.Laws.Small
namespace Go.Proofs.Ytfofkebkcjkjeaa
open Go.RowKit
set_option linter.unusedSimpArgs false
set_option linter.unusedVariables false

def Snd (P : Program) (w0 : World) (μ : Nat → Pl) (H : Hp) (w : World) (run : Result Next) (x : LV) (H' : Hp) : Prop :=
  ∃ w' μ', ((∃ v, run = .ok (.value v) w' ∧ TR μ' H' x v) ∨ (run = .ok .skip w' ∧ x = .junk)) ∧ Rep w0 μ' H' w' ∧ Ext μ H μ' H'

theorem Snd.quiet {P : Program} {w0 : World} {μ : Nat → Pl} {H : Hp} {w : World} {run : Result Next} {x : LV} (hR : Rep w0 μ H w) {v : Value} (n : Nat) (h : run = .ok (.value v) (w.drewN n)) (hx : TR μ H x v) : Snd P w0 μ H w run x H :=
  ⟨_, μ, Or.inl ⟨v, h, hx⟩, hR.drewN n, Ext.refl μ H⟩

theorem Snd.still {P : Program} {w0 : World} {μ : Nat → Pl} {H : Hp} {w : World} {run : Result Next} {x : LV} (hR : Rep w0 μ H w) {v : Value} (h : run = .ok (.value v) w) (hx : TR μ H x v) : Snd P w0 μ H w run x H :=
  ⟨_, μ, Or.inl ⟨v, h, hx⟩, hR, Ext.refl μ H⟩

theorem run_eqGuard_int {P : Program} {w : World} (op : BinOp) (t : TypeId) (x y : Operand) (k k' : IntKind) (a b : Int) : (eqGuard op t x y (.int k a) (.int k' b)).run P w = .ok () w := by
  cases op <;> rfl
theorem run_eqGuard_flt {P : Program} {w : World} (op : BinOp) (t : TypeId) (x y : Operand) (k k' : FloatKind) (a b : Nat) : (eqGuard op t x y (.float k a) (.float k' b)).run P w = .ok () w := by
  cases op <;> rfl
theorem run_eqGuard_bool {P : Program} {w : World} (op : BinOp) (t : TypeId) (x y : Operand) (a b : Bool) : (eqGuard op t x y (.bool a) (.bool b)).run P w = .ok () w := by
  cases op <;> rfl

theorem run_bin_int {P : Program} {w : World} {T : Tab} {op : BinOp} {t : TypeId} {k k' : IntKind} {a b : Int} {x : LV} (h : abin T op t (.int k a) (.int k' b) = some x) (μ : Nat → Pl) (H : Hp) :
    ∃ v, (binOp op t (.int k a) (.int k' b)).run P w = .ok v w ∧ BR μ H x v := by
  cases op
  case shl =>
    simp only [abin] at h
    by_cases hb : 0 ≤ b
    · rw [if_pos hb] at h; cases h
      have : ¬ b < 0 := by omega
      exact ⟨_, by simp [binOp, Op.shift, this] <;> rfl, rfl⟩
    · rw [if_neg hb] at h; cases h
  case shr =>
    simp only [abin] at h
    by_cases hb : 0 ≤ b
    · rw [if_pos hb] at h; cases h
      have : ¬ b < 0 := by omega
      exact ⟨_, by simp [binOp, Op.shift, this] <;> rfl, rfl⟩
    · rw [if_neg hb] at h; cases h
  all_goals
    simp only [abin] at h
    by_cases hk : k = k'
    · subst hk
      simp only [if_true, aint] at h
      first
        | (by_cases hb : b = 0
           · rw [if_pos hb] at h; cases h
           · rw [if_neg hb] at h; cases h; exact ⟨_, by simp [binOp, Op.intDiv, hb] <;> rfl, rfl⟩)
        | (cases h; exact ⟨_, by simp [binOp, Op.intArith] <;> rfl, rfl⟩)
        | (cases h; exact ⟨_, by simp [binOp, Op.intBits] <;> rfl, rfl⟩)
        | (cases h; exact ⟨_, by simp [binOp, Op.intCmp] <;> rfl, rfl⟩)
        | (cases h)
    · rw [if_neg hk] at h; cases h

theorem order_ordC (k : FloatKind) (a b : Nat) : k.format.order a b = ordC k (can k a) (can k b) := order_can k a b

theorem run_bin_flt {P : Program} {w : World} {T : Tab} {op : BinOp} {t : TypeId} {k k' : FloatKind} {a b : Nat} {x : LV} (h : abin T op t (.flt k (can k a)) (.flt k' (can k' b)) = some x) (μ : Nat → Pl) (H : Hp) :
    ∃ v n, (binOp op t (.float k a) (.float k' b)).run P w = .ok v (w.drewN n) ∧ BR μ H x v := by
  simp only [abin] at h
  by_cases hk : k = k'
  · subst hk
    simp only [if_true] at h
    cases op <;> simp only [aflt] at h
    case add => cases h; exact ⟨_, _, run_fadd t k a b w, _, rfl, can_fop _ _ _ _ _⟩
    case sub => cases h; exact ⟨_, _, run_fsub t k a b w, _, rfl, can_fop _ _ _ _ _⟩
    case mul => cases h; exact ⟨_, _, run_fmul t k a b w, _, rfl, can_fop _ _ _ _ _⟩
    case quo => cases h; exact ⟨_, _, run_fquo t k a b w, _, rfl, can_fop _ _ _ _ _⟩
    all_goals first
      | (cases h; done)
      | (cases h; refine ⟨_, 0, (by simp [binOp, Op.floatCmp, order_ordC, fEq, fLt, fLe, fGt, fGe, bne] <;> rfl), rfl⟩)
  · rw [if_neg hk] at h; cases h

theorem run_bin_bool {P : Program} {w : World} {T : Tab} (hT : TabOk P T) {op : BinOp} {t : TypeId} {a b : Bool} {x : LV} (h : abin T op t (.bool a) (.bool b) = some x) (μ : Nat → Pl) (H : Hp) :
    ∃ v, (binOp op t (.bool a) (.bool b)).run P w = .ok v w ∧ BR μ H x v := by
  simp only [abin] at h
  split at h
  · rename_i sz by_ zs hTt
    obtain ⟨d, i, z, h1, h2, _⟩ := hT t _ hTt
    have hd : d = .bool := h2
    subst hd
    cases op <;> simp only at h <;> first | cases h | skip
    · exact ⟨_, by simp [binOp, run_equal_bool w t a b h1] <;> rfl, rfl⟩
    · exact ⟨_, by simp [binOp, run_equal_bool w t a b h1] <;> rfl, rfl⟩
  · cases h
end Go.Proofs.Ytfofkebkcjkjeaa
