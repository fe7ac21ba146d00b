/- The program's LevelsCount returns what the reference's returns, for all arguments; no condition. -/
import Derived.Test.YtldbojmonegdbaaVLevelsCount
import Derived.Test.YtldbojmonegdbaaCm
namespace Go.Proofs.Ytldbojmonegdbaa
open Go.ChangeShapes Go.WideShapes Go.ChangeAt Go.RowKit
set_option linter.unusedSimpArgs false
set_option linter.unusedVariables false

set_option maxRecDepth 100000 in
theorem openFnExactLevelsCount {H : Type} {enc : TypeId × Value → H} {W : World} {base : Nat} {args : Array Value} {ds gs : List (DataW H)} {before : List MemPlace}
    (hval : ∀ (j : Nat) t v, Try.f12.params[j]? = some t → args[j]? = some v → Value.okWide Try.prog W .any base t v)
    (hW : DataW.Whole enc Try.prog Try.f12.params.toList Rows.fnExactLevelsCountSpec.vars false W args.toList ds gs before) :
    Calls Try.prog 12 args W fun e W' => e = .returned (.bool true) ∧ Below W.heap.size W W' := by
  have hW0 := hW
  obtain ⟨p, q, hA, hV, rfl, hfz, hnd⟩ := hW
  rw [Try.params12] at hA hval
  obtain ⟨v0, vs0, d0, ds0, p0, q0, hargs, rfl, rfl, h0, r0⟩ := trodAll_cons hA
  obtain ⟨rfl, rfl, rfl⟩ := trodAll_nil r0
  obtain rfl : args = #[v0] := by cases args; simp_all
  obtain ⟨n, s, xss, L, lv, zH, zm, z0, z1, zl, zg, zR, zx, zb, zr, zd⟩ := arg_Levels (Rep.start W) (hval 0 53 v0 rfl rfl) h0
  exact bridge (lawLevelsCount n s lv L xss  _ zr zd zl zg z0 z1 ) zR ⟨TR.of_LR zb, trivial⟩ Try.func12 (by kernel_rfl) rfl

set_option maxRecDepth 100000 in
theorem liftedFnExactLevelsCount (os : Os) (started : os.Started) (H : Type) (enc : TypeId × Value → H) :
    ReturnsInHanded {} Try.checked os 12 .any (Rows.fnExactLevelsCountSpec.pre6 enc Try.prog Try.f12 Rows.fnExactLevelsCountRow.domain false) (Rows.fnExactLevelsCountSpec.post enc Try.prog Try.f12 false true false false) := by
  refine returnsInHanded_of_change_sized (C := Try.checked) own started (by kernel_rfl) Try.func12
    (ChangeSpec.witness6 (enc := enc) (C := Try.checked) false ⟨#[], #[.agg #[.int .i64 0, .int .i64 0, .slice none 0 0]], []⟩ 8 (by kernel_rfl) (by kernel_rfl) (by kernel_rfl) (by kernel_rfl)) ?_
  intro W base args ds gs before hval hW _ hsz _
  have hr : ∀ t ∈ Try.f12.params.toList, Try.prog.readableRec t = true ∧ t < Try.prog.types.size := by
    rw [Try.params12]
    intro t ht
    simp only [List.mem_cons, List.not_mem_nil, or_false] at ht
    rcases ht with rfl
    all_goals exact ⟨by kernel_rfl, of_decide_eq_true (by kernel_rfl)⟩
  refine (openFnExactLevelsCount hval hW).mono fun e W' ⟨he, hb⟩ => ⟨_, he, ?_⟩
  refine law_post laidOut rfl hr rfl Try.underlying4 hW hb ?_
  obtain ⟨p, q, hA, hV, _⟩ := hW
  obtain ⟨rfl, _⟩ := trodVars_none hV
  rw [Try.params12] at hA
  obtain ⟨v0, vs0, d0, ds0, p0, q0, _, rfl, _, h0, r0⟩ := trodAll_cons hA
  obtain ⟨_, rfl, _⟩ := trodAll_nil r0
  rfl

theorem provedFnExactLevelsCount : Rows.FnExactLevelsCountSaid :=
  OpenClaim.holds_of_wide 12 Try.f12 rfl rfl rfl rfl rfl rfl rfl ⟨rfl, rfl, rfl, rfl, rfl⟩ rfl rfl rfl rfl rfl (by kernel_rfl) Try.func12 (by kernel_rfl)
    (of_decide_eq_true (by kernel_rfl)) (by unfold Func.isWrapper; first | (rw [if_pos (by decide +kernel)]; kernel_rfl) | (rw [if_neg (by decide +kernel)]; exact ⟨rfl, rfl⟩))
    (fun os started H enc _ => liftedFnExactLevelsCount os started H enc)
#print axioms provedFnExactLevelsCount


end Go.Proofs.Ytldbojmonegdbaa
