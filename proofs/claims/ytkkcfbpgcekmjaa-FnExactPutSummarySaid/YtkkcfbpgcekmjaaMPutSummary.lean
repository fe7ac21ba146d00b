/- The law FnExactPutSummary of the program, lifted. -/
import Derived.Test.YtkkcfbpgcekmjaaVPutSummary
import Derived.Test.YtkkcfbpgcekmjaaZl
namespace Go.Proofs.Ytkkcfbpgcekmjaa
open Go.ChangeShapes Go.WideShapes Go.ChangeAt Go.RowKit
set_option linter.unusedSimpArgs false
set_option linter.unusedVariables false

set_option maxRecDepth 100000 in
theorem openFnExactPutSummary {H : Type} {enc : TypeId × Value → H} {W : World} {base : Nat} {args : Array Value} {ds gs : List (DataW H)} {before : List MemPlace}
    (hval : ∀ (j : Nat) t v, Try.f12.params[j]? = some t → args[j]? = some v → Value.okWide Try.prog W .any base t v)
    (hW : DataW.Whole enc Try.prog Try.f12.params.toList Rows.fnExactPutSummarySpec.vars false W args.toList ds gs before) :
    Calls Try.prog 12 args W fun e W' => e = .returned (.bool true) ∧ Below W.heap.size W W' := by
  have hW0 := hW
  obtain ⟨p, q, hA, hV, rfl, hfz, hnd⟩ := hW
  rw [Try.params12] at hA hval
  obtain ⟨v0, vs0, d0, ds0, p0, q0, hargs, rfl, rfl, h0, r0⟩ := trodAll_cons hA
  obtain ⟨v1, vs1, d1, ds1, p1, q1, rfl, rfl, rfl, h1, r1⟩ := trodAll_cons r0
  obtain ⟨rfl, rfl, rfl⟩ := trodAll_nil r1
  obtain rfl : args = #[v0, v1] := by cases args; simp_all
  obtain ⟨a0v0, a0v1, a0x2, a0v2, a0x3, a0v3, a0x4, a0v4, zH0, μ0, z00, z01, zl02, zg02, zl03, zg03, zl04, zg04, zR0, zx0, zb0, zr02, zr03, zr04⟩ := arg_Summary (Rep.start W) (hval 0 25 v0 rfl rfl) h0
  obtain ⟨a1v, zg1, zb1⟩ := arg_f32 (hval 1 37 v1 rfl rfl) h1
  exact bridge (lawPutSummary a0v0 a0v1 a0v2 a0x2 a0v3 a0x3 a0v4 a0x4 a1v _ zr02 zl02 zr03 zl03 zr04 zl04 z00 z01 zg02 zg03 zg04 zg1) zR0 ⟨TR.of_LR zb0, TR.of_BR (zb1 _ _), trivial⟩ Try.func12 (by kernel_rfl) rfl

set_option maxRecDepth 100000 in
theorem liftedFnExactPutSummary (os : Os) (started : os.Started) (H : Type) (enc : TypeId × Value → H) :
    ReturnsInHanded {} Try.checked os 12 .any (Rows.fnExactPutSummarySpec.pre6 enc Try.prog Try.f12 Rows.fnExactPutSummaryRow.domain false) (Rows.fnExactPutSummarySpec.post enc Try.prog Try.f12 false true false false) := by
  refine returnsInHanded_of_change_sized (C := Try.checked) own started (by kernel_rfl) Try.func12
    (ChangeSpec.witness6 (enc := enc) (C := Try.checked) false ⟨#[], #[.agg #[.int .i64 0, .int .i64 0, .slice none 0 0, .slice none 0 0, .slice none 0 0], .float .f32 0], []⟩ 8 (by kernel_rfl) (by kernel_rfl) (by kernel_rfl) (by kernel_rfl)) ?_
  intro W base args ds gs before hval hW _ hsz _
  have hr : ∀ t ∈ Try.f12.params.toList, Try.prog.readableRec t = true ∧ t < Try.prog.types.size := by
    rw [Try.params12]
    intro t ht
    simp only [List.mem_cons, List.not_mem_nil, or_false] at ht
    rcases ht with rfl | rfl
    all_goals exact ⟨by kernel_rfl, of_decide_eq_true (by kernel_rfl)⟩
  refine (openFnExactPutSummary hval hW).mono fun e W' ⟨he, hb⟩ => ⟨_, he, ?_⟩
  refine law_post laidOut rfl hr rfl Try.underlying4 hW hb ?_
  obtain ⟨p, q, hA, hV, _⟩ := hW
  obtain ⟨rfl, _⟩ := trodVars_none hV
  rw [Try.params12] at hA
  obtain ⟨v0, vs0, d0, ds0, p0, q0, _, rfl, _, h0, r0⟩ := trodAll_cons hA
  obtain ⟨v1, vs1, d1, ds1, p1, q1, _, rfl, _, h1, r1⟩ := trodAll_cons r0
  obtain ⟨_, rfl, _⟩ := trodAll_nil r1
  rfl


end Go.Proofs.Ytkkcfbpgcekmjaa
