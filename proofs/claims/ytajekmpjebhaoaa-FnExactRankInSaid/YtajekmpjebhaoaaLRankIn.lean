/- The program's RankIn returns what the reference's returns, for all arguments; no condition. -/
import Derived.Test.YtajekmpjebhaoaaRank
import Derived.Test.YtajekmpjebhaoaaArgS
namespace Go.Proofs.Ytajekmpjebhaoaa
open Go.ChangeShapes Go.WideShapes Go.ChangeAt Go.RowKit
set_option linter.unusedSimpArgs false
set_option linter.unusedVariables false

theorem walkRankIn (a : Option Addr) (n cap : Nat) (xs : List Nat) (x : Nat) (hn : n ≤ 9223372036854775807) (w : World) (h : RdRaw w (.float .f32) a n xs) :
    Calls Try.prog 6 #[.slice a n cap, .float .f32 x] w fun e w' => e = .returned (.bool true) ∧ Below w.heap.size w w' := by
  by_cases hb : n ≤ 1048576
  · have R0 := Lib.hid (h.rd (by omega))
    clear h
    cases hc : (isl xs && finB .f32 x)
    all_goals
      have HC := Lib.hid hc
      clear hc
      go_enter Try.func6, Try.ntmps6
      go_wp2_with fail; refine (toFloat32S_any a n cap xs _ (R0.out)).mono ?_; rintro e w' ⟨v1, rfl, ho1, hb1⟩
      obtain ⟨a1, c1, rfl, r1⟩ := own_rd ho1 (by omega)
      have R1 := Lib.hid r1
      have O1 := Lib.hid ho1
      have B1 := Lib.hid (below_next (Below.refl _ _) hb1)
      have b1 := Lib.hid hb1
      clear r1 ho1 hb1
      go_wp2_with fail; refine (sRankIn_any a1 n c1 xs x _ R1.out).mono ?_; rintro e w' ⟨he, m1, rfl⟩
      simp only [HC.out, Bool.false_eq_true, if_true, if_false] at he
      subst he
      go_wp2_with fail; refine (toFloat32S_any a n cap xs _ ((R0.out.below B1.out).drewN _)).mono ?_; rintro e w' ⟨v2, rfl, ho2, hb2⟩
      obtain ⟨a2, c2, rfl, r2⟩ := own_rd ho2 (by omega)
      have R2 := Lib.hid r2
      have O2 := Lib.hid ho2
      have B2 := Lib.hid (below_next (below_drewN' B1.out) hb2)
      have b2 := Lib.hid hb2
      clear r2 ho2 hb2
      go_wp2_with fail; refine (iRankIn_any a2 n c2 xs x _ R2.out).mono ?_; rintro e w' ⟨he, m2, rfl⟩
      simp only [HC.out, Bool.false_eq_true, if_true, if_false] at he
      subst he
      go_wp2_with fail; refine (toFloat32S_any a n cap xs _ ((R0.out.below B2.out).drewN _)).mono ?_; rintro e w' ⟨v3, rfl, ho3, hb3⟩
      obtain ⟨a3, c3, rfl, r3⟩ := own_rd ho3 (by omega)
      have R3 := Lib.hid r3
      have O3 := Lib.hid ho3
      have B3 := Lib.hid (below_next (below_drewN' B2.out) hb3)
      have b3 := Lib.hid hb3
      clear r3 ho3 hb3
      go_wp2_with fail; refine (eqFloat32S_same a2 n c2 xs a3 n c3 xs rfl _ ((R2.out.drewN m2).below b3.out) R3.out).mono ?_; rintro e w' ⟨rfl, m3, rfl⟩
      go_wp2
      go_ret
      exact ⟨rfl, below_drewN' B3.out⟩
  · clear h
    go_enter Try.func6, Try.ntmps6
    go_wp2
    go_ret
    exact ⟨rfl, Below.refl _ _⟩

set_option maxRecDepth 100000 in
theorem openFnExactRankIn {H : Type} {enc : TypeId × Value → H} {W : World} {base : Nat} {args : Array Value} {ds gs : List (DataW H)} {before : List MemPlace}
    (hval : ∀ (j : Nat) t v, Try.f6.params[j]? = some t → args[j]? = some v → Value.okWide Try.prog W .any base t v)
    (hW : DataW.Whole enc Try.prog Try.f6.params.toList Rows.fnExactRankInSpec.vars false W args.toList ds gs before) :
    Calls Try.prog 6 args W fun e W' => e = .returned (.bool true) ∧ Below W.heap.size W W' := by
  have hW0 := hW
  obtain ⟨p, q, hA, hV, rfl, hfz, hnd⟩ := hW
  rw [Try.params6] at hA hval
  obtain ⟨v0, vs0, d0, ds0, p0, q0, hargs, rfl, rfl, h0, r0⟩ := trodAll_cons hA
  obtain ⟨v1, vs1, d1, ds1, p1, q1, rfl, rfl, rfl, h1, r1⟩ := trodAll_cons r0
  obtain ⟨rfl, rfl, rfl⟩ := trodAll_nil r1
  obtain rfl : args = #[v0, v1] := by cases args; simp_all
  obtain ⟨a, n, cap, xs, rfl, hn, hr, _⟩ := open_floats (hval 0 31 v0 rfl rfl) h0
  obtain ⟨x, rfl, _, _, _⟩ := open_float Try.underlying22 (hval 1 22 v1 rfl rfl) h1
  exact walkRankIn a n cap xs x hn W hr

set_option maxRecDepth 100000 in
theorem liftedFnExactRankIn (os : Os) (started : os.Started) (H : Type) (enc : TypeId × Value → H) :
    ReturnsInHanded {} Try.checked os 6 .any (Rows.fnExactRankInSpec.pre6 enc Try.prog Try.f6 Rows.fnExactRankInRow.domain false) (Rows.fnExactRankInSpec.post enc Try.prog Try.f6 false true false false) := by
  refine returnsInHanded_of_change_sized (C := Try.checked) own started (by kernel_rfl) Try.func6
    (ChangeSpec.witness6 (enc := enc) (C := Try.checked) false ⟨#[], #[.slice none 0 0, .float .f32 0], []⟩ 8 (by kernel_rfl) (by kernel_rfl) (by kernel_rfl) (by kernel_rfl)) ?_
  intro W base args ds gs before hval hW _ hsz _
  have hr : ∀ t ∈ Try.f6.params.toList, Try.prog.readableRec t = true ∧ t < Try.prog.types.size := by
    rw [Try.params6]
    intro t ht
    simp only [List.mem_cons, List.not_mem_nil, or_false] at ht
    rcases ht with rfl | rfl
    all_goals exact ⟨by kernel_rfl, of_decide_eq_true (by kernel_rfl)⟩
  refine (openFnExactRankIn hval hW).mono fun e W' ⟨he, hb⟩ => ⟨_, he, ?_⟩
  refine law_post laidOut rfl hr rfl Try.underlying4 hW hb ?_
  obtain ⟨p, q, hA, hV, _⟩ := hW
  obtain ⟨rfl, _⟩ := trodVars_none hV
  rw [Try.params6] at hA
  obtain ⟨v0, vs0, d0, ds0, p0, q0, _, rfl, _, h0, r0⟩ := trodAll_cons hA
  obtain ⟨v1, vs1, d1, ds1, p1, q1, _, rfl, _, h1, r1⟩ := trodAll_cons r0
  obtain ⟨_, rfl, _⟩ := trodAll_nil r1
  rfl

theorem provedFnExactRankIn : Rows.FnExactRankInSaid :=
  OpenClaim.holds_of_wide 6 Try.f6 rfl rfl rfl rfl rfl rfl rfl ⟨rfl, rfl, rfl, rfl, rfl⟩ rfl rfl rfl rfl rfl (by kernel_rfl) Try.func6 (by kernel_rfl)
    (of_decide_eq_true (by kernel_rfl)) (by unfold Func.isWrapper; first | (rw [if_pos (by decide +kernel)]; kernel_rfl) | (rw [if_neg (by decide +kernel)]; exact ⟨rfl, rfl⟩))
    (fun os started H enc _ => liftedFnExactRankIn os started H enc)
#print axioms provedFnExactRankIn


end Go.Proofs.Ytajekmpjebhaoaa
