/- The program's CountOfZeros returns what the reference's returns, for all arguments; no condition. -/
import Derived.Test.YtkkcfbpgcekmjaaMCountOfZeros
namespace Go.Proofs.Ytkkcfbpgcekmjaa
open Go.ChangeShapes Go.WideShapes Go.ChangeAt Go.RowKit
set_option linter.unusedSimpArgs false
set_option linter.unusedVariables false

theorem provedFnExactCountOfZeros_named : Try.pinned.checked.prog.funcNamed Rows.fnExactCountOfZerosRow.func = some 6 := by kernel_rfl
theorem provedFnExactCountOfZeros_facts : joinedFacts Try.pinned.checked.prog 6 Try.f6 Rows.fnExactCountOfZerosSpec Rows.fnExactCountOfZerosRow = true := by kernel_rfl
theorem provedFnExactCountOfZeros_inst : Func.isInstance Try.pinned.checked.prog Try.f6 Rows.fnExactCountOfZerosRow.origin Rows.fnExactCountOfZerosRow.targs := of_decide_eq_true (by kernel_rfl)
theorem provedFnExactCountOfZeros_wrap : Func.isWrapper Try.pinned.checked.prog Try.f6 Rows.fnExactCountOfZerosRow.wrapper Rows.fnExactCountOfZerosRow.mainSum := by
  unfold Func.isWrapper; first | (rw [if_pos (by decide +kernel)]; kernel_rfl) | (rw [if_neg (by decide +kernel)]; exact ⟨rfl, rfl⟩)
theorem provedFnExactCountOfZeros : Rows.FnExactCountOfZerosSaid :=
  OpenClaim.holds_of_wide 6 Try.f6 rfl rfl rfl rfl rfl rfl rfl ⟨rfl, rfl, rfl, rfl, rfl⟩ rfl rfl rfl rfl rfl provedFnExactCountOfZeros_named Try.func6 provedFnExactCountOfZeros_facts provedFnExactCountOfZeros_inst provedFnExactCountOfZeros_wrap
    (fun os started H enc _ => liftedFnExactCountOfZeros os started H enc)
#print axioms provedFnExactCountOfZeros


end Go.Proofs.Ytkkcfbpgcekmjaa
