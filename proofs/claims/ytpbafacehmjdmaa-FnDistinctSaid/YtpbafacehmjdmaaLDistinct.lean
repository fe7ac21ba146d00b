/- The law FnDistinct: zeros and least hashes of parts are joined to those of all, count few keys exactly, nearly, and tell what is in both; no condition. -/
import Derived.Test.YtpbafacehmjdmaaMDistinct
namespace Go.Proofs.Ytpbafacehmjdmaa
open Go.ChangeShapes Go.WideShapes Go.ChangeAt Go.RowKit
set_option linter.unusedSimpArgs false
set_option linter.unusedVariables false

theorem provedFnDistinct_named : Try.pinned.checked.prog.funcNamed Rows.fnDistinctRow.func = some 3 := by kernel_rfl
theorem provedFnDistinct_facts : joinedFacts Try.pinned.checked.prog 3 Try.f3 Rows.fnDistinctSpec Rows.fnDistinctRow = true := by kernel_rfl
theorem provedFnDistinct_inst : Func.isInstance Try.pinned.checked.prog Try.f3 Rows.fnDistinctRow.origin Rows.fnDistinctRow.targs := of_decide_eq_true (by kernel_rfl)
theorem provedFnDistinct_wrap : Func.isWrapper Try.pinned.checked.prog Try.f3 Rows.fnDistinctRow.wrapper Rows.fnDistinctRow.mainSum := by
  unfold Func.isWrapper; first | (rw [if_pos (by decide +kernel)]; kernel_rfl) | (rw [if_neg (by decide +kernel)]; exact ⟨rfl, rfl⟩)
theorem provedFnDistinct : Rows.FnDistinctSaid :=
  OpenClaim.holds_of_wide 3 Try.f3 rfl rfl rfl rfl rfl rfl rfl ⟨rfl, rfl, rfl, rfl, rfl⟩ rfl rfl rfl rfl rfl provedFnDistinct_named Try.func3 provedFnDistinct_facts provedFnDistinct_inst provedFnDistinct_wrap
    (fun os started H enc _ => liftedFnDistinct os started H enc)
#print axioms provedFnDistinct


end Go.Proofs.Ytpbafacehmjdmaa
