/- The program's TopsOf returns what the reference's returns, for all arguments; no condition. -/
import Derived.Test.YtfofkebkcjkjeaaMTopsOf
import Derived.Conc.Holds
import Derived.Leaving
namespace Go.Proofs.Ytfofkebkcjkjeaa
open Go.ChangeShapes Go.WideShapes Go.ChangeAt Go.RowKit
set_option linter.unusedSimpArgs false
set_option linter.unusedVariables false

theorem leaving_of_handed {a : Assume} {C : Checked} {os : Os} {f : FuncId} {r : Reach} {Pre : World → Array Value → Prop} {Post : World → Array Value → Value → World → Prop} (h : ReturnsInHanded a C os f r Pre Post) : ReturnsInLeavingWide a C os f r Pre Post :=
  fun enter => ReturnsInOpen.mono (fun _ _ _ x => ⟨x.2.1, onlyLeaving_of_quiet x.1, x.2.2⟩) (fun _ x => x) (h enter)
theorem provedFnExactTopsOf_named : Try.pinned.checked.prog.funcNamed Rows.fnExactTopsOfRow.func = some 3 := by kernel_rfl
theorem provedFnExactTopsOf_facts : joinedFacts Try.pinned.checked.prog 3 Try.f3 Rows.fnExactTopsOfSpec Rows.fnExactTopsOfRow = true := by kernel_rfl
theorem provedFnExactTopsOf_inst : Func.isInstance Try.pinned.checked.prog Try.f3 Rows.fnExactTopsOfRow.origin Rows.fnExactTopsOfRow.targs := of_decide_eq_true (by kernel_rfl)
theorem provedFnExactTopsOf_wrap : Func.isWrapper Try.pinned.checked.prog Try.f3 Rows.fnExactTopsOfRow.wrapper Rows.fnExactTopsOfRow.mainSum := by
  unfold Func.isWrapper; first | (rw [if_pos (by decide +kernel)]; kernel_rfl) | (rw [if_neg (by decide +kernel)]; exact ⟨rfl, rfl⟩)
theorem provedFnExactTopsOf : Rows.FnExactTopsOfSaid :=
  OpenClaim.holds_of_wide_leaving 3 Try.f3 rfl rfl rfl rfl rfl rfl rfl ⟨rfl, rfl, rfl, rfl, rfl⟩ rfl rfl rfl rfl rfl provedFnExactTopsOf_named Try.func3 provedFnExactTopsOf_facts provedFnExactTopsOf_inst provedFnExactTopsOf_wrap
    (fun os started H enc _ => leaving_of_handed (liftedFnExactTopsOf os started H enc))
#print axioms provedFnExactTopsOf


end Go.Proofs.Ytfofkebkcjkjeaa
