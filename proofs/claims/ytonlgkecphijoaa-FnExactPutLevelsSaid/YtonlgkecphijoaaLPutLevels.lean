/- The program's PutLevels returns what the reference's returns, for all arguments; no condition. -/
import Derived.Test.YtonlgkecphijoaaMPutLevels
namespace Go.Proofs.Ytonlgkecphijoaa
open Go.ChangeShapes Go.WideShapes Go.ChangeAt Go.RowKit
set_option linter.unusedSimpArgs false
set_option linter.unusedVariables false

theorem provedFnExactPutLevels_named : Try.pinned.checked.prog.funcNamed Rows.fnExactPutLevelsRow.func = some 3 := by kernel_rfl
theorem provedFnExactPutLevels_facts : joinedFacts Try.pinned.checked.prog 3 Try.f3 Rows.fnExactPutLevelsSpec Rows.fnExactPutLevelsRow = true := by kernel_rfl
theorem provedFnExactPutLevels_inst : Func.isInstance Try.pinned.checked.prog Try.f3 Rows.fnExactPutLevelsRow.origin Rows.fnExactPutLevelsRow.targs := of_decide_eq_true (by kernel_rfl)
theorem provedFnExactPutLevels_wrap : Func.isWrapper Try.pinned.checked.prog Try.f3 Rows.fnExactPutLevelsRow.wrapper Rows.fnExactPutLevelsRow.mainSum := by
  unfold Func.isWrapper; first | (rw [if_pos (by decide +kernel)]; kernel_rfl) | (rw [if_neg (by decide +kernel)]; exact ⟨rfl, rfl⟩)
theorem provedFnExactPutLevels : Rows.FnExactPutLevelsSaid :=
  OpenClaim.holds_of_wide 3 Try.f3 rfl rfl rfl rfl rfl rfl rfl ⟨rfl, rfl, rfl, rfl, rfl⟩ rfl rfl rfl rfl rfl provedFnExactPutLevels_named Try.func3 provedFnExactPutLevels_facts provedFnExactPutLevels_inst provedFnExactPutLevels_wrap
    (fun os started H enc _ => liftedFnExactPutLevels os started H enc)
#print axioms provedFnExactPutLevels


end Go.Proofs.Ytonlgkecphijoaa
