/- Shares; lists of finite numbers as streams. -/
import Derived.Test.YtajekmpjebhaoaaTimes
import Derived.Test.YtajekmpjebhaoaaFin
namespace Go.Proofs.Ytajekmpjebhaoaa
open Go.RowKit
set_option linter.unusedSimpArgs false
set_option linter.unusedVariables false

def shareB (b : Nat) : Bool := (FloatKind.f32.format.order b 0 == some .gt || FloatKind.f32.format.order b 0 == some .eq) && (FloatKind.f32.format.order b 1065353216 == some .lt || FloatKind.f32.format.order b 1065353216 == some .eq)

theorem isShare_any (b : Nat) (w : World) : Calls Try.prog 107 #[.float .f32 b] w fun e w' => e = .returned (.bool (shareB b)) ∧ w' = w := by
  unfold shareB
  generalize h1 : (FloatKind.f32.format.order b 0 == some .gt || FloatKind.f32.format.order b 0 == some .eq) = b1
  cases b1
  all_goals
    go_enter Try.func107, Try.ntmps107
    go_wp2
    all_goals go_ret
    all_goals simp_all
theorem l02Share_any (b : Nat) (w : World) : Calls Try.prog 106 #[.float .f32 b] w fun e w' => e = .returned (.bool (shareB b)) ∧ w' = w := by
  unfold shareB
  generalize h1 : (FloatKind.f32.format.order b 0 == some .gt || FloatKind.f32.format.order b 0 == some .eq) = b1
  cases b1
  all_goals
    go_enter Try.func106, Try.ntmps106
    go_wp2
    all_goals go_ret
    all_goals simp_all
def floatsB (xs : List Nat) : Bool := inB xs.length 1 128 && xs.all (finB .f32)
theorem l06Floats_any (a : Option Addr) (n cap : Nat) (xs : List Nat) (w : World) (h : Rd w (.float .f32) a n xs) :
    Calls Try.prog 105 #[.slice a n cap] w fun e w' => e = .returned (.bool (floatsB xs)) ∧ ∃ m, w' = w.drewN m := by
  have e1 := Lib.hid h.1
  have hm := h.2.1
  have HH := Lib.hid h
  clear h
  go_enter Try.func105, Try.ntmps105
  go_wp2_with (go_at_call 124; refine (l02Finite_any a n cap xs _ HH.out).mono ?_; rintro e w' ⟨rfl, m, rfl⟩)
  all_goals go_ret
  all_goals (have e2 := e1.out; subst e2)
  all_goals first | (refine ⟨?_, 0, rfl⟩; unfold floatsB inB; simp; try omega) | (refine ⟨?_, _, rfl⟩; unfold floatsB inB; simp; try omega)
end Go.Proofs.Ytajekmpjebhaoaa
