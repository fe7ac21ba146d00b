/- The program's MergeLevels returns what the reference's returns, for all arguments; no condition. -/
import Derived.Test.YtonlgkecphijoaaMMergeLevels
namespace Go.Proofs.Ytonlgkecphijoaa
open Go.ChangeShapes Go.WideShapes Go.ChangeAt Go.RowKit
set_option linter.unusedSimpArgs false
set_option linter.unusedVariables false

theorem provedFnExactMergeLevels_named : Try.pinned.checked.prog.funcNamed Rows.fnExactMergeLevelsRow.func = some 4 := by kernel_rfl
theorem provedFnExactMergeLevels_facts : joinedFacts Try.pinned.checked.prog 4 Try.f4 Rows.fnExactMergeLevelsSpec Rows.fnExactMergeLevelsRow = true := by kernel_rfl
theorem provedFnExactMergeLevels_inst : Func.isInstance Try.pinned.checked.prog Try.f4 Rows.fnExactMergeLevelsRow.origin Rows.fnExactMergeLevelsRow.targs := of_decide_eq_true (by kernel_rfl)
theorem provedFnExactMergeLevels_wrap : Func.isWrapper Try.pinned.checked.prog Try.f4 Rows.fnExactMergeLevelsRow.wrapper Rows.fnExactMergeLevelsRow.mainSum := by
  unfold Func.isWrapper; first | (rw [if_pos (by decide +kernel)]; kernel_rfl) | (rw [if_neg (by decide +kernel)]; exact ⟨rfl, rfl⟩)
theorem provedFnExactMergeLevels : Rows.FnExactMergeLevelsSaid :=
  OpenClaim.holds_of_wide 4 Try.f4 rfl rfl rfl rfl rfl rfl rfl ⟨rfl, rfl, rfl, rfl, rfl⟩ rfl rfl rfl rfl rfl provedFnExactMergeLevels_named Try.func4 provedFnExactMergeLevels_facts provedFnExactMergeLevels_inst provedFnExactMergeLevels_wrap
    (fun os started H enc _ => liftedFnExactMergeLevels os started H enc)
#print axioms provedFnExactMergeLevels


end Go.Proofs.Ytonlgkecphijoaa
