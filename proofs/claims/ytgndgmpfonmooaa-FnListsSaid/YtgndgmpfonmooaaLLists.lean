/- The law FnLists: lists are put in ascending order, and quantiles have their share at or below them, and no number before them has; no condition. -/
import Derived.Test.YtgndgmpfonmooaaMLists
namespace Go.Proofs.Ytgndgmpfonmooaa
open Go.ChangeShapes Go.WideShapes Go.ChangeAt Go.RowKit
set_option linter.unusedSimpArgs false
set_option linter.unusedVariables false

theorem provedFnLists_named : Try.pinned.checked.prog.funcNamed Rows.fnListsRow.func = some 3 := by kernel_rfl
theorem provedFnLists_facts : joinedFacts Try.pinned.checked.prog 3 Try.f3 Rows.fnListsSpec Rows.fnListsRow = true := by kernel_rfl
theorem provedFnLists_inst : Func.isInstance Try.pinned.checked.prog Try.f3 Rows.fnListsRow.origin Rows.fnListsRow.targs := of_decide_eq_true (by kernel_rfl)
theorem provedFnLists_wrap : Func.isWrapper Try.pinned.checked.prog Try.f3 Rows.fnListsRow.wrapper Rows.fnListsRow.mainSum := by
  unfold Func.isWrapper; first | (rw [if_pos (by decide +kernel)]; kernel_rfl) | (rw [if_neg (by decide +kernel)]; exact ⟨rfl, rfl⟩)
theorem provedFnLists : Rows.FnListsSaid :=
  OpenClaim.holds_of_wide 3 Try.f3 rfl rfl rfl rfl rfl rfl rfl ⟨rfl, rfl, rfl, rfl, rfl⟩ rfl rfl rfl rfl rfl provedFnLists_named Try.func3 provedFnLists_facts provedFnLists_inst provedFnLists_wrap
    (fun os started H enc _ => liftedFnLists os started H enc)
#print axioms provedFnLists


end Go.Proofs.Ytgndgmpfonmooaa
