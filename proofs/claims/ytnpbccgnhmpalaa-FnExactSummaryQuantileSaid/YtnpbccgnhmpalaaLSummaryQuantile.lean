/- The program's SummaryQuantile returns what the reference's returns, for all arguments; no condition. -/
import Derived.Test.YtnpbccgnhmpalaaMSummaryQuantile
namespace Go.Proofs.Ytnpbccgnhmpalaa
open Go.ChangeShapes Go.WideShapes Go.ChangeAt Go.RowKit
set_option linter.unusedSimpArgs false
set_option linter.unusedVariables false

theorem provedFnExactSummaryQuantile_named : Try.pinned.checked.prog.funcNamed Rows.fnExactSummaryQuantileRow.func = some 10 := by kernel_rfl
theorem provedFnExactSummaryQuantile_facts : joinedFacts Try.pinned.checked.prog 10 Try.f10 Rows.fnExactSummaryQuantileSpec Rows.fnExactSummaryQuantileRow = true := by kernel_rfl
theorem provedFnExactSummaryQuantile_inst : Func.isInstance Try.pinned.checked.prog Try.f10 Rows.fnExactSummaryQuantileRow.origin Rows.fnExactSummaryQuantileRow.targs := of_decide_eq_true (by kernel_rfl)
theorem provedFnExactSummaryQuantile_wrap : Func.isWrapper Try.pinned.checked.prog Try.f10 Rows.fnExactSummaryQuantileRow.wrapper Rows.fnExactSummaryQuantileRow.mainSum := by
  unfold Func.isWrapper; first | (rw [if_pos (by decide +kernel)]; kernel_rfl) | (rw [if_neg (by decide +kernel)]; exact ⟨rfl, rfl⟩)
theorem provedFnExactSummaryQuantile : Rows.FnExactSummaryQuantileSaid :=
  OpenClaim.holds_of_wide 10 Try.f10 rfl rfl rfl rfl rfl rfl rfl ⟨rfl, rfl, rfl, rfl, rfl⟩ rfl rfl rfl rfl rfl provedFnExactSummaryQuantile_named Try.func10 provedFnExactSummaryQuantile_facts provedFnExactSummaryQuantile_inst provedFnExactSummaryQuantile_wrap
    (fun os started H enc _ => liftedFnExactSummaryQuantile os started H enc)
#print axioms provedFnExactSummaryQuantile


end Go.Proofs.Ytnpbccgnhmpalaa
