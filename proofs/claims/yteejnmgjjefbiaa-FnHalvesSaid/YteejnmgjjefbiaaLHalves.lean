/- The law FnHalves: levels stand for as many numbers as were put, ranks grow, and quantiles are numbers that were put; no condition. -/
import Derived.Test.YteejnmgjjefbiaaMHalves
namespace Go.Proofs.Yteejnmgjjefbiaa
open Go.ChangeShapes Go.WideShapes Go.ChangeAt Go.RowKit
set_option linter.unusedSimpArgs false
set_option linter.unusedVariables false

theorem provedFnHalves_named : Try.pinned.checked.prog.funcNamed Rows.fnHalvesRow.func = some 3 := by kernel_rfl
theorem provedFnHalves_facts : joinedFacts Try.pinned.checked.prog 3 Try.f3 Rows.fnHalvesSpec Rows.fnHalvesRow = true := by kernel_rfl
theorem provedFnHalves_inst : Func.isInstance Try.pinned.checked.prog Try.f3 Rows.fnHalvesRow.origin Rows.fnHalvesRow.targs := of_decide_eq_true (by kernel_rfl)
theorem provedFnHalves_wrap : Func.isWrapper Try.pinned.checked.prog Try.f3 Rows.fnHalvesRow.wrapper Rows.fnHalvesRow.mainSum := by
  unfold Func.isWrapper; first | (rw [if_pos (by decide +kernel)]; kernel_rfl) | (rw [if_neg (by decide +kernel)]; exact ⟨rfl, rfl⟩)
theorem provedFnHalves : Rows.FnHalvesSaid :=
  OpenClaim.holds_of_wide 3 Try.f3 rfl rfl rfl rfl rfl rfl rfl ⟨rfl, rfl, rfl, rfl, rfl⟩ rfl rfl rfl rfl rfl provedFnHalves_named Try.func3 provedFnHalves_facts provedFnHalves_inst provedFnHalves_wrap
    (fun os started H enc _ => liftedFnHalves os started H enc)
#print axioms provedFnHalves


end Go.Proofs.Yteejnmgjjefbiaa
