/- The program's LeastHashes returns what the reference's returns, for all arguments; no condition. -/
import Derived.Test.YtfofkebkcjkjeaaMLeastHashes
import Derived.Conc.Holds
import Derived.Leaving
namespace Go.Proofs.Ytfofkebkcjkjeaa
open Go.ChangeShapes Go.WideShapes Go.ChangeAt Go.RowKit
set_option linter.unusedSimpArgs false
set_option linter.unusedVariables false

theorem leaving_of_handed {a : Assume} {C : Checked} {os : Os} {f : FuncId} {r : Reach} {Pre : World → Array Value → Prop} {Post : World → Array Value → Value → World → Prop} (h : ReturnsInHanded a C os f r Pre Post) : ReturnsInLeavingWide a C os f r Pre Post :=
  fun enter => ReturnsInOpen.mono (fun _ _ _ x => ⟨x.2.1, onlyLeaving_of_quiet x.1, x.2.2⟩) (fun _ x => x) (h enter)
theorem provedFnExactLeastHashes_named : Try.pinned.checked.prog.funcNamed Rows.fnExactLeastHashesRow.func = some 6 := by kernel_rfl
theorem provedFnExactLeastHashes_facts : joinedFacts Try.pinned.checked.prog 6 Try.f6 Rows.fnExactLeastHashesSpec Rows.fnExactLeastHashesRow = true := by kernel_rfl
theorem provedFnExactLeastHashes_inst : Func.isInstance Try.pinned.checked.prog Try.f6 Rows.fnExactLeastHashesRow.origin Rows.fnExactLeastHashesRow.targs := of_decide_eq_true (by kernel_rfl)
theorem provedFnExactLeastHashes_wrap : Func.isWrapper Try.pinned.checked.prog Try.f6 Rows.fnExactLeastHashesRow.wrapper Rows.fnExactLeastHashesRow.mainSum := by
  unfold Func.isWrapper; first | (rw [if_pos (by decide +kernel)]; kernel_rfl) | (rw [if_neg (by decide +kernel)]; exact ⟨rfl, rfl⟩)
theorem provedFnExactLeastHashes : Rows.FnExactLeastHashesSaid :=
  OpenClaim.holds_of_wide_leaving 6 Try.f6 rfl rfl rfl rfl rfl rfl rfl ⟨rfl, rfl, rfl, rfl, rfl⟩ rfl rfl rfl rfl rfl provedFnExactLeastHashes_named Try.func6 provedFnExactLeastHashes_facts provedFnExactLeastHashes_inst provedFnExactLeastHashes_wrap
    (fun os started H enc _ => leaving_of_handed (liftedFnExactLeastHashes os started H enc))
#print axioms provedFnExactLeastHashes


end Go.Proofs.Ytfofkebkcjkjeaa
