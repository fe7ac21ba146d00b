/- The program's BestCuts returns what the reference's returns, for all arguments; no condition. -/
import Derived.Test.YtkkcfbpgcekmjaaMBestCuts
namespace Go.Proofs.Ytkkcfbpgcekmjaa
open Go.ChangeShapes Go.WideShapes Go.ChangeAt Go.RowKit
set_option linter.unusedSimpArgs false
set_option linter.unusedVariables false

theorem provedFnExactBestCuts_named : Try.pinned.checked.prog.funcNamed Rows.fnExactBestCutsRow.func = some 8 := by kernel_rfl
theorem provedFnExactBestCuts_facts : joinedFacts Try.pinned.checked.prog 8 Try.f8 Rows.fnExactBestCutsSpec Rows.fnExactBestCutsRow = true := by kernel_rfl
theorem provedFnExactBestCuts_inst : Func.isInstance Try.pinned.checked.prog Try.f8 Rows.fnExactBestCutsRow.origin Rows.fnExactBestCutsRow.targs := of_decide_eq_true (by kernel_rfl)
theorem provedFnExactBestCuts_wrap : Func.isWrapper Try.pinned.checked.prog Try.f8 Rows.fnExactBestCutsRow.wrapper Rows.fnExactBestCutsRow.mainSum := by
  unfold Func.isWrapper; first | (rw [if_pos (by decide +kernel)]; kernel_rfl) | (rw [if_neg (by decide +kernel)]; exact ⟨rfl, rfl⟩)
theorem provedFnExactBestCuts : Rows.FnExactBestCutsSaid :=
  OpenClaim.holds_of_wide 8 Try.f8 rfl rfl rfl rfl rfl rfl rfl ⟨rfl, rfl, rfl, rfl, rfl⟩ rfl rfl rfl rfl rfl provedFnExactBestCuts_named Try.func8 provedFnExactBestCuts_facts provedFnExactBestCuts_inst provedFnExactBestCuts_wrap
    (fun os started H enc _ => liftedFnExactBestCuts os started H enc)
#print axioms provedFnExactBestCuts


end Go.Proofs.Ytkkcfbpgcekmjaa
