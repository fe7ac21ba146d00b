/- The law FnDistinct of the program, lifted. -/
import Derived.Test.YtpbafacehmjdmaaVDistinct
import Derived.Test.YtpbafacehmjdmaaPg
namespace Go.Proofs.Ytpbafacehmjdmaa
open Go.ChangeShapes Go.WideShapes Go.ChangeAt Go.RowKit
set_option linter.unusedSimpArgs false
set_option linter.unusedVariables false

set_option maxRecDepth 100000 in
theorem openFnDistinct {H : Type} {enc : TypeId × Value → H} {W : World} {base : Nat} {args : Array Value} {ds gs : List (DataW H)} {before : List MemPlace}
    (hval : ∀ (j : Nat) t v, Try.f3.params[j]? = some t → args[j]? = some v → Value.okWide Try.prog W .any base t v)
    (hW : DataW.Whole enc Try.prog Try.f3.params.toList Rows.fnDistinctSpec.vars false W args.toList ds gs before) :
    Calls Try.prog 3 args W fun e W' => e = .returned (.bool true) ∧ Below W.heap.size W W' := by
  have hW0 := hW
  obtain ⟨p, q, hA, hV, rfl, hfz, hnd⟩ := hW
  rw [Try.params3] at hA hval
  obtain ⟨v0, vs0, d0, ds0, p0, q0, hargs, rfl, rfl, h0, r0⟩ := trodAll_cons hA
  obtain ⟨v1, vs1, d1, ds1, p1, q1, rfl, rfl, rfl, h1, r1⟩ := trodAll_cons r0
  obtain ⟨rfl, rfl, rfl⟩ := trodAll_nil r1
  obtain rfl : args = #[v0, v1] := by cases args; simp_all
  obtain ⟨a0x, a0v, zH0, μ0, zl0, zg0, zR0, zx0, zb0, zr0⟩ := arg_u8s (Rep.start W) (hval 0 22 v0 rfl rfl) h0
  obtain ⟨a1x, a1v, zH1, μ1, zl1, zg1, zR1, zx1, zb1, zr1⟩ := arg_u8s zR0 (hval 1 22 v1 rfl rfl) h1
  replace zb0 := BR.ext zx1 zb0
  replace zr0 := zr0.app zH1
  exact bridge (lawDistinct a0v a0x a1v a1x _ zr0 zl0 zg0 zr1 zl1 zg1) zR1 ⟨TR.of_BR zb0, TR.of_BR zb1, trivial⟩ Try.func3 (by kernel_rfl) rfl

set_option maxRecDepth 100000 in
theorem liftedFnDistinct (os : Os) (started : os.Started) (H : Type) (enc : TypeId × Value → H) :
    ReturnsInHanded {} Try.checked os 3 .any (Rows.fnDistinctSpec.pre6 enc Try.prog Try.f3 Rows.fnDistinctRow.domain false) (Rows.fnDistinctSpec.post enc Try.prog Try.f3 false true false false) := by
  refine returnsInHanded_of_change_sized (C := Try.checked) own started (by kernel_rfl) Try.func3
    (ChangeSpec.witness6 (enc := enc) (C := Try.checked) false ⟨#[], #[.slice none 0 0, .slice none 0 0], []⟩ 8 (by kernel_rfl) (by kernel_rfl) (by kernel_rfl) (by kernel_rfl)) ?_
  intro W base args ds gs before hval hW _ hsz _
  have hr : ∀ t ∈ Try.f3.params.toList, Try.prog.readableRec t = true ∧ t < Try.prog.types.size := by
    rw [Try.params3]
    intro t ht
    simp only [List.mem_cons, List.not_mem_nil, or_false] at ht
    rcases ht with rfl | rfl
    all_goals exact ⟨by kernel_rfl, of_decide_eq_true (by kernel_rfl)⟩
  refine (openFnDistinct hval hW).mono fun e W' ⟨he, hb⟩ => ⟨_, he, ?_⟩
  refine law_post laidOut rfl hr rfl Try.underlying4 hW hb ?_
  obtain ⟨p, q, hA, hV, _⟩ := hW
  obtain ⟨rfl, _⟩ := trodVars_none hV
  rw [Try.params3] at hA
  obtain ⟨v0, vs0, d0, ds0, p0, q0, _, rfl, _, h0, r0⟩ := trodAll_cons hA
  obtain ⟨v1, vs1, d1, ds1, p1, q1, _, rfl, _, h1, r1⟩ := trodAll_cons r0
  obtain ⟨_, rfl, _⟩ := trodAll_nil r1
  rfl


end Go.Proofs.Ytpbafacehmjdmaa
