/- The program's QuantileIn returns what the reference's returns, for all arguments; no condition. -/
import Derived.Test.YtnpbccgnhmpalaaQq
import Derived.Test.YtnpbccgnhmpalaaCr
namespace Go.Proofs.Ytnpbccgnhmpalaa
open Go.ChangeShapes Go.WideShapes Go.ChangeAt Go.RowKit
set_option linter.unusedSimpArgs false
set_option linter.unusedVariables false

set_option maxRecDepth 100000 in
theorem openFnExactQuantileIn {H : Type} {enc : TypeId × Value → H} {W : World} {base : Nat} {args : Array Value} {ds gs : List (DataW H)} {before : List MemPlace}
    (hval : ∀ (j : Nat) t v, Try.f11.params[j]? = some t → args[j]? = some v → Value.okWide Try.prog W .any base t v)
    (hW : DataW.Whole enc Try.prog Try.f11.params.toList Rows.fnExactQuantileInSpec.vars false W args.toList ds gs before) :
    Calls Try.prog 11 args W fun e W' => e = .returned (.bool true) ∧ Below W.heap.size W W' := by
  have hW0 := hW
  obtain ⟨p, q, hA, hV, rfl, hfz, hnd⟩ := hW
  rw [Try.params11] at hA hval
  obtain ⟨v0, vs0, d0, ds0, p0, q0, hargs, rfl, rfl, h0, r0⟩ := trodAll_cons hA
  obtain ⟨v1, vs1, d1, ds1, p1, q1, rfl, rfl, rfl, h1, r1⟩ := trodAll_cons r0
  obtain ⟨rfl, rfl, rfl⟩ := trodAll_nil r1
  obtain rfl : args = #[v0, v1] := by cases args; simp_all
  obtain ⟨a0x, a0v, zH0, μ0, zl0, zg0, zR0, zx0, zb0, zr0⟩ := arg_f32s (Rep.start W) (hval 0 75 v0 rfl rfl) h0
  obtain ⟨a1v, zg1, zb1⟩ := arg_f32 (hval 1 40 v1 rfl rfl) h1
  exact bridge (lawQuantileIn a0v a0x a1v _ zr0 zl0 zg0 zg1) zR0 ⟨TR.of_BR zb0, TR.of_BR (zb1 _ _), trivial⟩ Try.func11 (by kernel_rfl) rfl

set_option maxRecDepth 100000 in
theorem liftedFnExactQuantileIn (os : Os) (started : os.Started) (H : Type) (enc : TypeId × Value → H) :
    ReturnsInHanded {} Try.checked os 11 .any (Rows.fnExactQuantileInSpec.pre6 enc Try.prog Try.f11 Rows.fnExactQuantileInRow.domain false) (Rows.fnExactQuantileInSpec.post enc Try.prog Try.f11 false true false false) := by
  refine returnsInHanded_of_change_sized (C := Try.checked) own started (by kernel_rfl) Try.func11
    (ChangeSpec.witness6 (enc := enc) (C := Try.checked) false ⟨#[], #[.slice none 0 0, .float .f32 0], []⟩ 8 (by kernel_rfl) (by kernel_rfl) (by kernel_rfl) (by kernel_rfl)) ?_
  intro W base args ds gs before hval hW _ hsz _
  have hr : ∀ t ∈ Try.f11.params.toList, Try.prog.readableRec t = true ∧ t < Try.prog.types.size := by
    rw [Try.params11]
    intro t ht
    simp only [List.mem_cons, List.not_mem_nil, or_false] at ht
    rcases ht with rfl | rfl
    all_goals exact ⟨by kernel_rfl, of_decide_eq_true (by kernel_rfl)⟩
  refine (openFnExactQuantileIn hval hW).mono fun e W' ⟨he, hb⟩ => ⟨_, he, ?_⟩
  refine law_post laidOut rfl hr rfl Try.underlying4 hW hb ?_
  obtain ⟨p, q, hA, hV, _⟩ := hW
  obtain ⟨rfl, _⟩ := trodVars_none hV
  rw [Try.params11] at hA
  obtain ⟨v0, vs0, d0, ds0, p0, q0, _, rfl, _, h0, r0⟩ := trodAll_cons hA
  obtain ⟨v1, vs1, d1, ds1, p1, q1, _, rfl, _, h1, r1⟩ := trodAll_cons r0
  obtain ⟨_, rfl, _⟩ := trodAll_nil r1
  rfl


end Go.Proofs.Ytnpbccgnhmpalaa

namespace Go.Proofs.Ytnpbccgnhmpalaa
open Go.ChangeShapes Go.WideShapes Go.ChangeAt Go.RowKit
set_option linter.unusedSimpArgs false
set_option linter.unusedVariables false

theorem provedFnExactQuantileIn_named : Try.pinned.checked.prog.funcNamed Rows.fnExactQuantileInRow.func = some 11 := by kernel_rfl
theorem provedFnExactQuantileIn_facts : joinedFacts Try.pinned.checked.prog 11 Try.f11 Rows.fnExactQuantileInSpec Rows.fnExactQuantileInRow = true := by kernel_rfl
theorem provedFnExactQuantileIn_inst : Func.isInstance Try.pinned.checked.prog Try.f11 Rows.fnExactQuantileInRow.origin Rows.fnExactQuantileInRow.targs := of_decide_eq_true (by kernel_rfl)
theorem provedFnExactQuantileIn_wrap : Func.isWrapper Try.pinned.checked.prog Try.f11 Rows.fnExactQuantileInRow.wrapper Rows.fnExactQuantileInRow.mainSum := by
  unfold Func.isWrapper; first | (rw [if_pos (by decide +kernel)]; kernel_rfl) | (rw [if_neg (by decide +kernel)]; exact ⟨rfl, rfl⟩)
theorem provedFnExactQuantileIn : Rows.FnExactQuantileInSaid :=
  OpenClaim.holds_of_wide 11 Try.f11 rfl rfl rfl rfl rfl rfl rfl ⟨rfl, rfl, rfl, rfl, rfl⟩ rfl rfl rfl rfl rfl provedFnExactQuantileIn_named Try.func11 provedFnExactQuantileIn_facts provedFnExactQuantileIn_inst provedFnExactQuantileIn_wrap
    (fun os started H enc _ => liftedFnExactQuantileIn os started H enc)
#print axioms provedFnExactQuantileIn


end Go.Proofs.Ytnpbccgnhmpalaa

