/- The program's LevelsQuantile returns what the reference's returns, for all arguments; no condition. -/
import Derived.Test.YtcjpfifajbjalaaMLevelsQuantile
namespace Go.Proofs.Ytcjpfifajbjalaa
open Go.ChangeShapes Go.WideShapes Go.ChangeAt Go.RowKit
set_option linter.unusedSimpArgs false
set_option linter.unusedVariables false

theorem provedFnExactLevelsQuantile_named : Try.pinned.checked.prog.funcNamed Rows.fnExactLevelsQuantileRow.func = some 11 := by kernel_rfl
theorem provedFnExactLevelsQuantile_facts : joinedFacts Try.pinned.checked.prog 11 Try.f11 Rows.fnExactLevelsQuantileSpec Rows.fnExactLevelsQuantileRow = true := by kernel_rfl
theorem provedFnExactLevelsQuantile_inst : Func.isInstance Try.pinned.checked.prog Try.f11 Rows.fnExactLevelsQuantileRow.origin Rows.fnExactLevelsQuantileRow.targs := of_decide_eq_true (by kernel_rfl)
theorem provedFnExactLevelsQuantile_wrap : Func.isWrapper Try.pinned.checked.prog Try.f11 Rows.fnExactLevelsQuantileRow.wrapper Rows.fnExactLevelsQuantileRow.mainSum := by
  unfold Func.isWrapper; first | (rw [if_pos (by decide +kernel)]; kernel_rfl) | (rw [if_neg (by decide +kernel)]; exact ⟨rfl, rfl⟩)
theorem provedFnExactLevelsQuantile : Rows.FnExactLevelsQuantileSaid :=
  OpenClaim.holds_of_wide 11 Try.f11 rfl rfl rfl rfl rfl rfl rfl ⟨rfl, rfl, rfl, rfl, rfl⟩ rfl rfl rfl rfl rfl provedFnExactLevelsQuantile_named Try.func11 provedFnExactLevelsQuantile_facts provedFnExactLevelsQuantile_inst provedFnExactLevelsQuantile_wrap
    (fun os started H enc _ => liftedFnExactLevelsQuantile os started H enc)
#print axioms provedFnExactLevelsQuantile


end Go.Proofs.Ytcjpfifajbjalaa
