/- The law FnExactMergeLevels of the program, lifted. -/
import Derived.Test.YtonlgkecphijoaaVMergeLevels
import Derived.Test.YtonlgkecphijoaaCm
namespace Go.Proofs.Ytonlgkecphijoaa
open Go.ChangeShapes Go.WideShapes Go.ChangeAt Go.RowKit
set_option linter.unusedSimpArgs false
set_option linter.unusedVariables false

set_option maxRecDepth 100000 in
theorem openFnExactMergeLevels {H : Type} {enc : TypeId × Value → H} {W : World} {base : Nat} {args : Array Value} {ds gs : List (DataW H)} {before : List MemPlace}
    (hval : ∀ (j : Nat) t v, Try.f4.params[j]? = some t → args[j]? = some v → Value.okWide Try.prog W .any base t v)
    (hW : DataW.Whole enc Try.prog Try.f4.params.toList Rows.fnExactMergeLevelsSpec.vars false W args.toList ds gs before) :
    Calls Try.prog 4 args W fun e W' => e = .returned (.bool true) ∧ Below W.heap.size W W' := by
  have hW0 := hW
  obtain ⟨p, q, hA, hV, rfl, hfz, hnd⟩ := hW
  rw [Try.params4] at hA hval
  obtain ⟨v0, vs0, d0, ds0, p0, q0, hargs, rfl, rfl, h0, r0⟩ := trodAll_cons hA
  obtain ⟨v1, vs1, d1, ds1, p1, q1, rfl, rfl, rfl, h1, r1⟩ := trodAll_cons r0
  obtain ⟨rfl, rfl, rfl⟩ := trodAll_nil r1
  obtain rfl : args = #[v0, v1] := by cases args; simp_all
  obtain ⟨n, s, xss, L, lv, zH, zm, z0, z1, zl, zg, zR, zx, zb, zr, zd⟩ := arg_Levels (Rep.start W) (hval 0 24 v0 rfl rfl) h0
  obtain ⟨n1, s1, xss1, L1, lv1, zH1, zm1, z01, z11, zl1, zg1, zR1, zx1, zb1, zr1, zd1⟩ := arg_Levels zR (hval 1 24 v1 rfl rfl) h1
  replace zb := LR.ext zx1 zb
  replace zr := zr.app zH1
  replace zd := zd.app zH1
  exact bridge (lawMergeLevels n s lv L xss n1 s1 lv1 L1 xss1 _ zr zd zl zg z0 z1 zr1 zd1 zl1 zg1 z01 z11) zR1 ⟨TR.of_LR zb, TR.of_LR zb1, trivial⟩ Try.func4 (by kernel_rfl) rfl

set_option maxRecDepth 100000 in
theorem liftedFnExactMergeLevels (os : Os) (started : os.Started) (H : Type) (enc : TypeId × Value → H) :
    ReturnsInHanded {} Try.checked os 4 .any (Rows.fnExactMergeLevelsSpec.pre6 enc Try.prog Try.f4 Rows.fnExactMergeLevelsRow.domain false) (Rows.fnExactMergeLevelsSpec.post enc Try.prog Try.f4 false true false false) := by
  refine returnsInHanded_of_change_sized (C := Try.checked) own started (by kernel_rfl) Try.func4
    (ChangeSpec.witness6 (enc := enc) (C := Try.checked) false ⟨#[], #[.agg #[.int .i64 0, .int .i64 0, .slice none 0 0], .agg #[.int .i64 0, .int .i64 0, .slice none 0 0]], []⟩ 8 (by kernel_rfl) (by kernel_rfl) (by kernel_rfl) (by kernel_rfl)) ?_
  intro W base args ds gs before hval hW _ hsz _
  have hr : ∀ t ∈ Try.f4.params.toList, Try.prog.readableRec t = true ∧ t < Try.prog.types.size := by
    rw [Try.params4]
    intro t ht
    simp only [List.mem_cons, List.not_mem_nil, or_false] at ht
    rcases ht with rfl | rfl
    all_goals exact ⟨by kernel_rfl, of_decide_eq_true (by kernel_rfl)⟩
  refine (openFnExactMergeLevels hval hW).mono fun e W' ⟨he, hb⟩ => ⟨_, he, ?_⟩
  refine law_post laidOut rfl hr rfl Try.underlying4 hW hb ?_
  obtain ⟨p, q, hA, hV, _⟩ := hW
  obtain ⟨rfl, _⟩ := trodVars_none hV
  rw [Try.params4] at hA
  obtain ⟨v0, vs0, d0, ds0, p0, q0, _, rfl, _, h0, r0⟩ := trodAll_cons hA
  obtain ⟨v1, vs1, d1, ds1, p1, q1, _, rfl, _, h1, r1⟩ := trodAll_cons r0
  obtain ⟨_, rfl, _⟩ := trodAll_nil r1
  rfl


end Go.Proofs.Ytonlgkecphijoaa
