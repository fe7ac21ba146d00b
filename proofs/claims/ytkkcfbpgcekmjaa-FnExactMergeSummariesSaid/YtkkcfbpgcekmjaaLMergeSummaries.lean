/- The program's MergeSummaries returns what the reference's returns, for all arguments; no condition. -/
import Derived.Test.YtkkcfbpgcekmjaaMMergeSummaries
namespace Go.Proofs.Ytkkcfbpgcekmjaa
open Go.ChangeShapes Go.WideShapes Go.ChangeAt Go.RowKit
set_option linter.unusedSimpArgs false
set_option linter.unusedVariables false

theorem provedFnExactMergeSummaries_named : Try.pinned.checked.prog.funcNamed Rows.fnExactMergeSummariesRow.func = some 3 := by kernel_rfl
theorem provedFnExactMergeSummaries_facts : joinedFacts Try.pinned.checked.prog 3 Try.f3 Rows.fnExactMergeSummariesSpec Rows.fnExactMergeSummariesRow = true := by kernel_rfl
theorem provedFnExactMergeSummaries_inst : Func.isInstance Try.pinned.checked.prog Try.f3 Rows.fnExactMergeSummariesRow.origin Rows.fnExactMergeSummariesRow.targs := of_decide_eq_true (by kernel_rfl)
theorem provedFnExactMergeSummaries_wrap : Func.isWrapper Try.pinned.checked.prog Try.f3 Rows.fnExactMergeSummariesRow.wrapper Rows.fnExactMergeSummariesRow.mainSum := by
  unfold Func.isWrapper; first | (rw [if_pos (by decide +kernel)]; kernel_rfl) | (rw [if_neg (by decide +kernel)]; exact ⟨rfl, rfl⟩)
theorem provedFnExactMergeSummaries : Rows.FnExactMergeSummariesSaid :=
  OpenClaim.holds_of_wide 3 Try.f3 rfl rfl rfl rfl rfl rfl rfl ⟨rfl, rfl, rfl, rfl, rfl⟩ rfl rfl rfl rfl rfl provedFnExactMergeSummaries_named Try.func3 provedFnExactMergeSummaries_facts provedFnExactMergeSummaries_inst provedFnExactMergeSummaries_wrap
    (fun os started H enc _ => liftedFnExactMergeSummaries os started H enc)
#print axioms provedFnExactMergeSummaries


end Go.Proofs.Ytkkcfbpgcekmjaa
