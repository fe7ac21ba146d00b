/- IsList. -/
import Derived.Test.YtajekmpjebhaoaaIdx
import Derived.Test.YtajekmpjebhaoaaTo
namespace Go.Proofs.Ytajekmpjebhaoaa
open Go.RowKit
set_option linter.unusedSimpArgs false
set_option linter.unusedVariables false

def isl (xs : List Nat) : Bool := decide (1 ≤ xs.length) && decide (xs.length ≤ 256) && xs.all (finB .f32)

theorem l05List_any (a : Option Addr) (n cap : Nat) (xs : List Nat) (w : World) (h : Rd w (.float .f32) a n xs) :
    Calls Try.prog 70 #[.slice a n cap] w fun e w' => e = .returned (.bool (isl xs)) ∧ ∃ m, w' = w.drewN m := by
  have e1 := Lib.hid h.1
  have hm := h.2.1
  have HH := Lib.hid h
  clear h
  go_enter Try.func70, Try.ntmps70
  go_wp2_with (go_at_call 124; refine (l02Finite_any a n cap xs _ HH.out).mono ?_; rintro e w' ⟨rfl, m, rfl⟩)
  all_goals go_ret
  all_goals (have e2 := e1.out; subst e2)
  all_goals first | (refine ⟨?_, 0, rfl⟩; unfold isl; simp; try omega) | (refine ⟨?_, _, rfl⟩; unfold isl; simp; try omega)
theorem iIsList_any (a : Option Addr) (n cap : Nat) (xs : List Nat) (w : World) (h : Rd w (.float .f32) a n xs) :
    Calls Try.prog 22 #[.slice a n cap] w fun e w' => e = .returned (.bool (isl xs)) ∧ ∃ m, w' = w.drewN m := by
  have e1 := Lib.hid h.1
  have hm := h.2.1
  have HH := Lib.hid h
  clear h
  go_enter Try.func22, Try.ntmps22
  go_wp2_with (go_at_call 71; refine (areFinite_any a n cap xs _ HH.out).mono ?_; rintro e w' ⟨rfl, m, rfl⟩)
  all_goals go_ret
  all_goals (have e2 := e1.out; subst e2)
  all_goals first | (refine ⟨?_, 0, rfl⟩; unfold isl; simp; try omega) | (refine ⟨?_, _, rfl⟩; unfold isl; simp; try omega)
theorem sIsList_any (a : Option Addr) (n cap : Nat) (xs : List Nat) (w : World) (h : Rd w (.float .f32) a n xs) :
    Calls Try.prog 20 #[.slice a n cap] w fun e w' => e = .returned (.bool (isl xs)) ∧ ∃ m, w' = w.drewN m := by
  have HH := Lib.hid h
  clear h
  go_enter Try.func20, Try.ntmps20
  go_wp2_with (go_at_call 70; refine (l05List_any a n cap xs _ HH.out).mono ?_; rintro e w' ⟨rfl, m, rfl⟩)
  go_ret
  exact ⟨rfl, _, rfl⟩
end Go.Proofs.Ytajekmpjebhaoaa
