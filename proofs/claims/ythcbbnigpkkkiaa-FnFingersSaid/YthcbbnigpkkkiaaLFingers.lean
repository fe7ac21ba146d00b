/- The law FnFingers: keys that are put into cells are in them until they are taken out, and peeled cells have all of their keys; no condition. -/
import Derived.Test.YthcbbnigpkkkiaaMFingers
namespace Go.Proofs.Ythcbbnigpkkkiaa
open Go.ChangeShapes Go.WideShapes Go.ChangeAt Go.RowKit
set_option linter.unusedSimpArgs false
set_option linter.unusedVariables false

theorem provedFnFingers_named : Try.pinned.checked.prog.funcNamed Rows.fnFingersRow.func = some 3 := by kernel_rfl
theorem provedFnFingers_facts : joinedFacts Try.pinned.checked.prog 3 Try.f3 Rows.fnFingersSpec Rows.fnFingersRow = true := by kernel_rfl
theorem provedFnFingers_inst : Func.isInstance Try.pinned.checked.prog Try.f3 Rows.fnFingersRow.origin Rows.fnFingersRow.targs := of_decide_eq_true (by kernel_rfl)
theorem provedFnFingers_wrap : Func.isWrapper Try.pinned.checked.prog Try.f3 Rows.fnFingersRow.wrapper Rows.fnFingersRow.mainSum := by
  unfold Func.isWrapper; first | (rw [if_pos (by decide +kernel)]; kernel_rfl) | (rw [if_neg (by decide +kernel)]; exact ⟨rfl, rfl⟩)
theorem provedFnFingers : Rows.FnFingersSaid :=
  OpenClaim.holds_of_wide 3 Try.f3 rfl rfl rfl rfl rfl rfl rfl ⟨rfl, rfl, rfl, rfl, rfl⟩ rfl rfl rfl rfl rfl provedFnFingers_named Try.func3 provedFnFingers_facts provedFnFingers_inst provedFnFingers_wrap
    (fun os started H enc _ => liftedFnFingers os started H enc)
#print axioms provedFnFingers


end Go.Proofs.Ythcbbnigpkkkiaa
