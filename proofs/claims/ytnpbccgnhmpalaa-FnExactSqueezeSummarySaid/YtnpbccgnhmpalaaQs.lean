/- The program's SqueezeSummary returns what the reference's returns, for all arguments; no condition. -/
import Derived.Test.YtnpbccgnhmpalaaVSqueezeSummary
import Derived.Test.YtnpbccgnhmpalaaCr
namespace Go.Proofs.Ytnpbccgnhmpalaa
open Go.ChangeShapes Go.WideShapes Go.ChangeAt Go.RowKit
set_option linter.unusedSimpArgs false
set_option linter.unusedVariables false

set_option maxRecDepth 100000 in
theorem openFnExactSqueezeSummary {H : Type} {enc : TypeId × Value → H} {W : World} {base : Nat} {args : Array Value} {ds gs : List (DataW H)} {before : List MemPlace}
    (hval : ∀ (j : Nat) t v, Try.f8.params[j]? = some t → args[j]? = some v → Value.okWide Try.prog W .any base t v)
    (hW : DataW.Whole enc Try.prog Try.f8.params.toList Rows.fnExactSqueezeSummarySpec.vars false W args.toList ds gs before) :
    Calls Try.prog 8 args W fun e W' => e = .returned (.bool true) ∧ Below W.heap.size W W' := by
  have hW0 := hW
  obtain ⟨p, q, hA, hV, rfl, hfz, hnd⟩ := hW
  rw [Try.params8] at hA hval
  obtain ⟨v0, vs0, d0, ds0, p0, q0, hargs, rfl, rfl, h0, r0⟩ := trodAll_cons hA
  obtain ⟨rfl, rfl, rfl⟩ := trodAll_nil r0
  obtain rfl : args = #[v0] := by cases args; simp_all
  obtain ⟨a0v0, a0v1, a0x2, a0v2, a0x3, a0v3, a0x4, a0v4, zH0, μ0, z00, z01, zl02, zg02, zl03, zg03, zl04, zg04, zR0, zx0, zb0, zr02, zr03, zr04⟩ := arg_Summary (Rep.start W) (hval 0 87 v0 rfl rfl) h0
  exact bridge (lawSqueezeSummary a0v0 a0v1 a0v2 a0x2 a0v3 a0x3 a0v4 a0x4 _ zr02 zl02 zr03 zl03 zr04 zl04 z00 z01 zg02 zg03 zg04) zR0 ⟨TR.of_LR zb0, trivial⟩ Try.func8 (by kernel_rfl) rfl

set_option maxRecDepth 100000 in
theorem liftedFnExactSqueezeSummary (os : Os) (started : os.Started) (H : Type) (enc : TypeId × Value → H) :
    ReturnsInHanded {} Try.checked os 8 .any (Rows.fnExactSqueezeSummarySpec.pre6 enc Try.prog Try.f8 Rows.fnExactSqueezeSummaryRow.domain false) (Rows.fnExactSqueezeSummarySpec.post enc Try.prog Try.f8 false true false false) := by
  refine returnsInHanded_of_change_sized (C := Try.checked) own started (by kernel_rfl) Try.func8
    (ChangeSpec.witness6 (enc := enc) (C := Try.checked) false ⟨#[], #[.agg #[.int .i64 0, .int .i64 0, .slice none 0 0, .slice none 0 0, .slice none 0 0]], []⟩ 8 (by kernel_rfl) (by kernel_rfl) (by kernel_rfl) (by kernel_rfl)) ?_
  intro W base args ds gs before hval hW _ hsz _
  have hr : ∀ t ∈ Try.f8.params.toList, Try.prog.readableRec t = true ∧ t < Try.prog.types.size := by
    rw [Try.params8]
    intro t ht
    simp only [List.mem_cons, List.not_mem_nil, or_false] at ht
    rcases ht with rfl
    all_goals exact ⟨by kernel_rfl, of_decide_eq_true (by kernel_rfl)⟩
  refine (openFnExactSqueezeSummary hval hW).mono fun e W' ⟨he, hb⟩ => ⟨_, he, ?_⟩
  refine law_post laidOut rfl hr rfl Try.underlying4 hW hb ?_
  obtain ⟨p, q, hA, hV, _⟩ := hW
  obtain ⟨rfl, _⟩ := trodVars_none hV
  rw [Try.params8] at hA
  obtain ⟨v0, vs0, d0, ds0, p0, q0, _, rfl, _, h0, r0⟩ := trodAll_cons hA
  obtain ⟨_, rfl, _⟩ := trodAll_nil r0
  rfl


end Go.Proofs.Ytnpbccgnhmpalaa

namespace Go.Proofs.Ytnpbccgnhmpalaa
open Go.ChangeShapes Go.WideShapes Go.ChangeAt Go.RowKit
set_option linter.unusedSimpArgs false
set_option linter.unusedVariables false

theorem provedFnExactSqueezeSummary_named : Try.pinned.checked.prog.funcNamed Rows.fnExactSqueezeSummaryRow.func = some 8 := by kernel_rfl
theorem provedFnExactSqueezeSummary_facts : joinedFacts Try.pinned.checked.prog 8 Try.f8 Rows.fnExactSqueezeSummarySpec Rows.fnExactSqueezeSummaryRow = true := by kernel_rfl
theorem provedFnExactSqueezeSummary_inst : Func.isInstance Try.pinned.checked.prog Try.f8 Rows.fnExactSqueezeSummaryRow.origin Rows.fnExactSqueezeSummaryRow.targs := of_decide_eq_true (by kernel_rfl)
theorem provedFnExactSqueezeSummary_wrap : Func.isWrapper Try.pinned.checked.prog Try.f8 Rows.fnExactSqueezeSummaryRow.wrapper Rows.fnExactSqueezeSummaryRow.mainSum := by
  unfold Func.isWrapper; first | (rw [if_pos (by decide +kernel)]; kernel_rfl) | (rw [if_neg (by decide +kernel)]; exact ⟨rfl, rfl⟩)
theorem provedFnExactSqueezeSummary : Rows.FnExactSqueezeSummarySaid :=
  OpenClaim.holds_of_wide 8 Try.f8 rfl rfl rfl rfl rfl rfl rfl ⟨rfl, rfl, rfl, rfl, rfl⟩ rfl rfl rfl rfl rfl provedFnExactSqueezeSummary_named Try.func8 provedFnExactSqueezeSummary_facts provedFnExactSqueezeSummary_inst provedFnExactSqueezeSummary_wrap
    (fun os started H enc _ => liftedFnExactSqueezeSummary os started H enc)
#print axioms provedFnExactSqueezeSummary


end Go.Proofs.Ytnpbccgnhmpalaa

