/- The program's PutTop returns what the reference's returns, for all arguments; no condition. -/
import Derived.Test.YtkkcfbpgcekmjaaMPutTop
namespace Go.Proofs.Ytkkcfbpgcekmjaa
open Go.ChangeShapes Go.WideShapes Go.ChangeAt Go.RowKit
set_option linter.unusedSimpArgs false
set_option linter.unusedVariables false

theorem provedFnExactPutTop_named : Try.pinned.checked.prog.funcNamed Rows.fnExactPutTopRow.func = some 7 := by kernel_rfl
theorem provedFnExactPutTop_facts : joinedFacts Try.pinned.checked.prog 7 Try.f7 Rows.fnExactPutTopSpec Rows.fnExactPutTopRow = true := by kernel_rfl
theorem provedFnExactPutTop_inst : Func.isInstance Try.pinned.checked.prog Try.f7 Rows.fnExactPutTopRow.origin Rows.fnExactPutTopRow.targs := of_decide_eq_true (by kernel_rfl)
theorem provedFnExactPutTop_wrap : Func.isWrapper Try.pinned.checked.prog Try.f7 Rows.fnExactPutTopRow.wrapper Rows.fnExactPutTopRow.mainSum := by
  unfold Func.isWrapper; first | (rw [if_pos (by decide +kernel)]; kernel_rfl) | (rw [if_neg (by decide +kernel)]; exact ⟨rfl, rfl⟩)
theorem provedFnExactPutTop : Rows.FnExactPutTopSaid :=
  OpenClaim.holds_of_wide 7 Try.f7 rfl rfl rfl rfl rfl rfl rfl ⟨rfl, rfl, rfl, rfl, rfl⟩ rfl rfl rfl rfl rfl provedFnExactPutTop_named Try.func7 provedFnExactPutTop_facts provedFnExactPutTop_inst provedFnExactPutTop_wrap
    (fun os started H enc _ => liftedFnExactPutTop os started H enc)
#print axioms provedFnExactPutTop


end Go.Proofs.Ytkkcfbpgcekmjaa
