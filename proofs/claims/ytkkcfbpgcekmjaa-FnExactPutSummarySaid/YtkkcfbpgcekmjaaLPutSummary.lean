/- The program's PutSummary returns what the reference's returns, for all arguments; no condition. -/
import Derived.Test.YtkkcfbpgcekmjaaMPutSummary
namespace Go.Proofs.Ytkkcfbpgcekmjaa
open Go.ChangeShapes Go.WideShapes Go.ChangeAt Go.RowKit
set_option linter.unusedSimpArgs false
set_option linter.unusedVariables false

theorem provedFnExactPutSummary_named : Try.pinned.checked.prog.funcNamed Rows.fnExactPutSummaryRow.func = some 12 := by kernel_rfl
theorem provedFnExactPutSummary_facts : joinedFacts Try.pinned.checked.prog 12 Try.f12 Rows.fnExactPutSummarySpec Rows.fnExactPutSummaryRow = true := by kernel_rfl
theorem provedFnExactPutSummary_inst : Func.isInstance Try.pinned.checked.prog Try.f12 Rows.fnExactPutSummaryRow.origin Rows.fnExactPutSummaryRow.targs := of_decide_eq_true (by kernel_rfl)
theorem provedFnExactPutSummary_wrap : Func.isWrapper Try.pinned.checked.prog Try.f12 Rows.fnExactPutSummaryRow.wrapper Rows.fnExactPutSummaryRow.mainSum := by
  unfold Func.isWrapper; first | (rw [if_pos (by decide +kernel)]; kernel_rfl) | (rw [if_neg (by decide +kernel)]; exact ⟨rfl, rfl⟩)
theorem provedFnExactPutSummary : Rows.FnExactPutSummarySaid :=
  OpenClaim.holds_of_wide 12 Try.f12 rfl rfl rfl rfl rfl rfl rfl ⟨rfl, rfl, rfl, rfl, rfl⟩ rfl rfl rfl rfl rfl provedFnExactPutSummary_named Try.func12 provedFnExactPutSummary_facts provedFnExactPutSummary_inst provedFnExactPutSummary_wrap
    (fun os started H enc _ => liftedFnExactPutSummary os started H enc)
#print axioms provedFnExactPutSummary


end Go.Proofs.Ytkkcfbpgcekmjaa
