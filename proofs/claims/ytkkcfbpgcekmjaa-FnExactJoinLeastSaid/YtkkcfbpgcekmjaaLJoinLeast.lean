/- The program's JoinLeast returns what the reference's returns, for all arguments; no condition. -/
import Derived.Test.YtkkcfbpgcekmjaaMJoinLeast
namespace Go.Proofs.Ytkkcfbpgcekmjaa
open Go.ChangeShapes Go.WideShapes Go.ChangeAt Go.RowKit
set_option linter.unusedSimpArgs false
set_option linter.unusedVariables false

theorem provedFnExactJoinLeast_named : Try.pinned.checked.prog.funcNamed Rows.fnExactJoinLeastRow.func = some 9 := by kernel_rfl
theorem provedFnExactJoinLeast_facts : joinedFacts Try.pinned.checked.prog 9 Try.f9 Rows.fnExactJoinLeastSpec Rows.fnExactJoinLeastRow = true := by kernel_rfl
theorem provedFnExactJoinLeast_inst : Func.isInstance Try.pinned.checked.prog Try.f9 Rows.fnExactJoinLeastRow.origin Rows.fnExactJoinLeastRow.targs := of_decide_eq_true (by kernel_rfl)
theorem provedFnExactJoinLeast_wrap : Func.isWrapper Try.pinned.checked.prog Try.f9 Rows.fnExactJoinLeastRow.wrapper Rows.fnExactJoinLeastRow.mainSum := by
  unfold Func.isWrapper; first | (rw [if_pos (by decide +kernel)]; kernel_rfl) | (rw [if_neg (by decide +kernel)]; exact ⟨rfl, rfl⟩)
theorem provedFnExactJoinLeast : Rows.FnExactJoinLeastSaid :=
  OpenClaim.holds_of_wide 9 Try.f9 rfl rfl rfl rfl rfl rfl rfl ⟨rfl, rfl, rfl, rfl, rfl⟩ rfl rfl rfl rfl rfl provedFnExactJoinLeast_named Try.func9 provedFnExactJoinLeast_facts provedFnExactJoinLeast_inst provedFnExactJoinLeast_wrap
    (fun os started H enc _ => liftedFnExactJoinLeast os started H enc)
#print axioms provedFnExactJoinLeast


end Go.Proofs.Ytkkcfbpgcekmjaa
