/- The program's PutCluster returns what the reference's returns, for all arguments; no condition. -/
import Derived.Test.YtkkcfbpgcekmjaaMPutCluster
namespace Go.Proofs.Ytkkcfbpgcekmjaa
open Go.ChangeShapes Go.WideShapes Go.ChangeAt Go.RowKit
set_option linter.unusedSimpArgs false
set_option linter.unusedVariables false

theorem provedFnExactPutCluster_named : Try.pinned.checked.prog.funcNamed Rows.fnExactPutClusterRow.func = some 11 := by kernel_rfl
theorem provedFnExactPutCluster_facts : joinedFacts Try.pinned.checked.prog 11 Try.f11 Rows.fnExactPutClusterSpec Rows.fnExactPutClusterRow = true := by kernel_rfl
theorem provedFnExactPutCluster_inst : Func.isInstance Try.pinned.checked.prog Try.f11 Rows.fnExactPutClusterRow.origin Rows.fnExactPutClusterRow.targs := of_decide_eq_true (by kernel_rfl)
theorem provedFnExactPutCluster_wrap : Func.isWrapper Try.pinned.checked.prog Try.f11 Rows.fnExactPutClusterRow.wrapper Rows.fnExactPutClusterRow.mainSum := by
  unfold Func.isWrapper; first | (rw [if_pos (by decide +kernel)]; kernel_rfl) | (rw [if_neg (by decide +kernel)]; exact ⟨rfl, rfl⟩)
theorem provedFnExactPutCluster : Rows.FnExactPutClusterSaid :=
  OpenClaim.holds_of_wide 11 Try.f11 rfl rfl rfl rfl rfl rfl rfl ⟨rfl, rfl, rfl, rfl, rfl⟩ rfl rfl rfl rfl rfl provedFnExactPutCluster_named Try.func11 provedFnExactPutCluster_facts provedFnExactPutCluster_inst provedFnExactPutCluster_wrap
    (fun os started H enc _ => liftedFnExactPutCluster os started H enc)
#print axioms provedFnExactPutCluster


end Go.Proofs.Ytkkcfbpgcekmjaa
