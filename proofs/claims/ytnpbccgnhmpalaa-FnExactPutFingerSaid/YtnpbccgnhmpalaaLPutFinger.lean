/- The program's PutFinger returns what the reference's returns, for all arguments; no condition. -/
import Derived.Test.YtnpbccgnhmpalaaMPutFinger
namespace Go.Proofs.Ytnpbccgnhmpalaa
open Go.ChangeShapes Go.WideShapes Go.ChangeAt Go.RowKit
set_option linter.unusedSimpArgs false
set_option linter.unusedVariables false

theorem provedFnExactPutFinger_named : Try.pinned.checked.prog.funcNamed Rows.fnExactPutFingerRow.func = some 5 := by kernel_rfl
theorem provedFnExactPutFinger_facts : joinedFacts Try.pinned.checked.prog 5 Try.f5 Rows.fnExactPutFingerSpec Rows.fnExactPutFingerRow = true := by kernel_rfl
theorem provedFnExactPutFinger_inst : Func.isInstance Try.pinned.checked.prog Try.f5 Rows.fnExactPutFingerRow.origin Rows.fnExactPutFingerRow.targs := of_decide_eq_true (by kernel_rfl)
theorem provedFnExactPutFinger_wrap : Func.isWrapper Try.pinned.checked.prog Try.f5 Rows.fnExactPutFingerRow.wrapper Rows.fnExactPutFingerRow.mainSum := by
  unfold Func.isWrapper; first | (rw [if_pos (by decide +kernel)]; kernel_rfl) | (rw [if_neg (by decide +kernel)]; exact ⟨rfl, rfl⟩)
theorem provedFnExactPutFinger : Rows.FnExactPutFingerSaid :=
  OpenClaim.holds_of_wide 5 Try.f5 rfl rfl rfl rfl rfl rfl rfl ⟨rfl, rfl, rfl, rfl, rfl⟩ rfl rfl rfl rfl rfl provedFnExactPutFinger_named Try.func5 provedFnExactPutFinger_facts provedFnExactPutFinger_inst provedFnExactPutFinger_wrap
    (fun os started H enc _ => liftedFnExactPutFinger os started H enc)
#print axioms provedFnExactPutFinger


end Go.Proofs.Ytnpbccgnhmpalaa
