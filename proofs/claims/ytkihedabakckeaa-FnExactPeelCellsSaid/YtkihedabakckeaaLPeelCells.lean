/- The program's PeelCells returns what the reference's returns, for all arguments; no condition. -/
import Derived.Test.YtkihedabakckeaaMPeelCells
namespace Go.Proofs.Ytkihedabakckeaa
open Go.ChangeShapes Go.WideShapes Go.ChangeAt Go.RowKit
set_option linter.unusedSimpArgs false
set_option linter.unusedVariables false

theorem provedFnExactPeelCells_named : Try.pinned.checked.prog.funcNamed Rows.fnExactPeelCellsRow.func = some 3 := by kernel_rfl
theorem provedFnExactPeelCells_facts : joinedFacts Try.pinned.checked.prog 3 Try.f3 Rows.fnExactPeelCellsSpec Rows.fnExactPeelCellsRow = true := by kernel_rfl
theorem provedFnExactPeelCells_inst : Func.isInstance Try.pinned.checked.prog Try.f3 Rows.fnExactPeelCellsRow.origin Rows.fnExactPeelCellsRow.targs := of_decide_eq_true (by kernel_rfl)
theorem provedFnExactPeelCells_wrap : Func.isWrapper Try.pinned.checked.prog Try.f3 Rows.fnExactPeelCellsRow.wrapper Rows.fnExactPeelCellsRow.mainSum := by
  unfold Func.isWrapper; first | (rw [if_pos (by decide +kernel)]; kernel_rfl) | (rw [if_neg (by decide +kernel)]; exact ⟨rfl, rfl⟩)
theorem provedFnExactPeelCells : Rows.FnExactPeelCellsSaid :=
  OpenClaim.holds_of_wide 3 Try.f3 rfl rfl rfl rfl rfl rfl rfl ⟨rfl, rfl, rfl, rfl, rfl⟩ rfl rfl rfl rfl rfl provedFnExactPeelCells_named Try.func3 provedFnExactPeelCells_facts provedFnExactPeelCells_inst provedFnExactPeelCells_wrap
    (fun os started H enc _ => liftedFnExactPeelCells os started H enc)
#print axioms provedFnExactPeelCells


end Go.Proofs.Ytkihedabakckeaa
