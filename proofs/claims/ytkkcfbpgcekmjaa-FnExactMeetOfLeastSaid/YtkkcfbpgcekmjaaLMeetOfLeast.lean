/- The program's MeetOfLeast returns what the reference's returns, for all arguments; no condition. -/
import Derived.Test.YtkkcfbpgcekmjaaMMeetOfLeast
namespace Go.Proofs.Ytkkcfbpgcekmjaa
open Go.ChangeShapes Go.WideShapes Go.ChangeAt Go.RowKit
set_option linter.unusedSimpArgs false
set_option linter.unusedVariables false

theorem provedFnExactMeetOfLeast_named : Try.pinned.checked.prog.funcNamed Rows.fnExactMeetOfLeastRow.func = some 10 := by kernel_rfl
theorem provedFnExactMeetOfLeast_facts : joinedFacts Try.pinned.checked.prog 10 Try.f10 Rows.fnExactMeetOfLeastSpec Rows.fnExactMeetOfLeastRow = true := by kernel_rfl
theorem provedFnExactMeetOfLeast_inst : Func.isInstance Try.pinned.checked.prog Try.f10 Rows.fnExactMeetOfLeastRow.origin Rows.fnExactMeetOfLeastRow.targs := of_decide_eq_true (by kernel_rfl)
theorem provedFnExactMeetOfLeast_wrap : Func.isWrapper Try.pinned.checked.prog Try.f10 Rows.fnExactMeetOfLeastRow.wrapper Rows.fnExactMeetOfLeastRow.mainSum := by
  unfold Func.isWrapper; first | (rw [if_pos (by decide +kernel)]; kernel_rfl) | (rw [if_neg (by decide +kernel)]; exact ⟨rfl, rfl⟩)
theorem provedFnExactMeetOfLeast : Rows.FnExactMeetOfLeastSaid :=
  OpenClaim.holds_of_wide 10 Try.f10 rfl rfl rfl rfl rfl rfl rfl ⟨rfl, rfl, rfl, rfl, rfl⟩ rfl rfl rfl rfl rfl provedFnExactMeetOfLeast_named Try.func10 provedFnExactMeetOfLeast_facts provedFnExactMeetOfLeast_inst provedFnExactMeetOfLeast_wrap
    (fun os started H enc _ => liftedFnExactMeetOfLeast os started H enc)
#print axioms provedFnExactMeetOfLeast


end Go.Proofs.Ytkkcfbpgcekmjaa
