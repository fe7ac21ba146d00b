/- The program's CountExactly returns what the reference's returns, for all arguments; no condition. -/
import Derived.Test.YtajekmpjebhaoaaWCountExactly
import Derived.Test.YtajekmpjebhaoaaTo
import Derived.Test.YtajekmpjebhaoaaArgS
namespace Go.Proofs.Ytajekmpjebhaoaa
open Go.ChangeShapes Go.WideShapes Go.ChangeAt Go.RowKit
set_option linter.unusedSimpArgs false
set_option linter.unusedVariables false

theorem walkCountExactly (a : Option Addr) (n c : Nat) (xs : List Int) (b : Option Addr) (m d : Nat) (bs : List Bool) (t l : Int) (hn : n ≤ 9223372036854775807) (hm : m ≤ 9223372036854775807) (w : World) (h : RdRaw w (.int .i64) a n xs) (h' : RdRaw w Value.bool b m bs) :
    Calls Try.prog 8 #[.slice a n c, .slice b m d, .int .i64 t, .int .i64 l] w fun e w' => e = .returned (.bool true) ∧ Below w.heap.size w w' := by
  by_cases hb : n ≤ 1048576
  · by_cases hb' : m ≤ 1048576
    · have R0 := Lib.hid (h.rd (by omega))
      have S0 := Lib.hid (h'.rd (by omega))
      clear h h'
      obtain ⟨r, ok, hr⟩ : ∃ (r : Int) (ok : Bool), cexRes xs bs t l = .returned (.tuple #[.int .i64 r, .bool ok]) := by
        unfold cexRes; split <;> exact ⟨_, _, rfl⟩
      have HR := Lib.hid hr
      clear hr
      go_enter Try.func8, Try.ntmps8
      go_wp2_with fail; refine (toInt64S_any a n c xs _ (R0.out)).mono ?_; rintro e w' ⟨v1, rfl, ho1, hb1⟩
      obtain ⟨a1, c1, rfl, r1⟩ := own_rd ho1 (by omega)
      have R1 := Lib.hid r1
      have O1 := Lib.hid ho1
      have B1 := Lib.hid (below_next (Below.refl _ _) hb1)
      have b1 := Lib.hid hb1
      clear r1 ho1 hb1
      go_wp2_with fail; refine (toBoolS_any b m d bs _ (S0.out.below B1.out)).mono ?_; rintro e w' ⟨v2, rfl, ho2, hb2⟩
      obtain ⟨a2, c2, rfl, r2⟩ := own_rd ho2 (by omega)
      have R2 := Lib.hid r2
      have O2 := Lib.hid ho2
      have B2 := Lib.hid (below_next (B1.out) hb2)
      have b2 := Lib.hid hb2
      clear r2 ho2 hb2
      go_wp2_with fail; refine (sCountExactly_any a1 n c1 xs a2 m c2 bs t l _ (R1.out.below b2.out) R2.out).mono ?_; rintro e w' ⟨he, m1, rfl⟩
      rw [HR.out] at he
      subst he
      go_wp2_with fail; refine (toInt64S_any a n c xs _ ((R0.out.below B2.out).drewN _)).mono ?_; rintro e w' ⟨v3, rfl, ho3, hb3⟩
      obtain ⟨a3, c3, rfl, r3⟩ := own_rd ho3 (by omega)
      have R3 := Lib.hid r3
      have O3 := Lib.hid ho3
      have B3 := Lib.hid (below_next (below_drewN' B2.out) hb3)
      have b3 := Lib.hid hb3
      clear r3 ho3 hb3
      go_wp2_with fail; refine (toBoolS_any b m d bs _ (S0.out.below B3.out)).mono ?_; rintro e w' ⟨v4, rfl, ho4, hb4⟩
      obtain ⟨a4, c4, rfl, r4⟩ := own_rd ho4 (by omega)
      have R4 := Lib.hid r4
      have O4 := Lib.hid ho4
      have B4 := Lib.hid (below_next (B3.out) hb4)
      have b4 := Lib.hid hb4
      clear r4 ho4 hb4
      go_wp2_with fail; refine (iCountExactly_any a3 n c3 xs a4 m c4 bs t l _ (R3.out.below b4.out) R4.out).mono ?_; rintro e w' ⟨he, hb5⟩
      rw [HR.out] at he
      subst he
      have B5 := Lib.hid (below_next B4.out hb5)
      have R3' := Lib.hid ((R3.out.below b4.out).below hb5)
      have R4' := Lib.hid (R4.out.below hb5)
      clear hb5
      go_wp2_with fail; refine (toInt64S_any a n c xs _ (R0.out.below B5.out)).mono ?_; rintro e w' ⟨v6, rfl, ho6, hb6⟩
      obtain ⟨a6, c6, rfl, r6⟩ := own_rd ho6 (by omega)
      have R6 := Lib.hid r6
      have O6 := Lib.hid ho6
      have B6 := Lib.hid (below_next (B5.out) hb6)
      have b6 := Lib.hid hb6
      clear r6 ho6 hb6
      go_wp2_with fail; refine (eqInt64S_same a3 n c3 xs a6 c6 _ (R3'.out.below b6.out) R6.out).mono ?_; rintro e w' ⟨rfl, m6, rfl⟩
      have R4'' := Lib.hid ((R4'.out.below b6.out).drewN m6)
      go_wp2_with fail; refine (toBoolS_any b m d bs _ ((S0.out.below B6.out).drewN _)).mono ?_; rintro e w' ⟨v7, rfl, ho7, hb7⟩
      obtain ⟨a7, c7, rfl, r7⟩ := own_rd ho7 (by omega)
      have R7 := Lib.hid r7
      have O7 := Lib.hid ho7
      have B7 := Lib.hid (below_next (below_drewN' B6.out) hb7)
      have b7 := Lib.hid hb7
      clear r7 ho7 hb7
      go_wp2_with fail; refine (eqBoolS_same a4 m c4 bs a7 c7 _ (R4''.out.below b7.out) R7.out).mono ?_; rintro e w' ⟨rfl, m7, rfl⟩
      go_wp2
      go_ret
      exact ⟨rfl, below_drewN' B7.out⟩
    · clear h h'
      go_enter Try.func8, Try.ntmps8
      go_wp2
      go_ret
      exact ⟨rfl, Below.refl _ _⟩
  · clear h h'
    go_enter Try.func8, Try.ntmps8
    go_wp2
    go_ret
    exact ⟨rfl, Below.refl _ _⟩

set_option maxRecDepth 100000 in
theorem openFnExactCountExactly {H : Type} {enc : TypeId × Value → H} {W : World} {base : Nat} {args : Array Value} {ds gs : List (DataW H)} {before : List MemPlace}
    (hval : ∀ (j : Nat) t v, Try.f8.params[j]? = some t → args[j]? = some v → Value.okWide Try.prog W .any base t v)
    (hW : DataW.Whole enc Try.prog Try.f8.params.toList Rows.fnExactCountExactlySpec.vars false W args.toList ds gs before) :
    Calls Try.prog 8 args W fun e W' => e = .returned (.bool true) ∧ Below W.heap.size W W' := by
  have hW0 := hW
  obtain ⟨p, q, hA, hV, rfl, hfz, hnd⟩ := hW
  rw [Try.params8] at hA hval
  obtain ⟨v0, vs0, d0, ds0, p0, q0, hargs, rfl, rfl, h0, r0⟩ := trodAll_cons hA
  obtain ⟨v1, vs1, d1, ds1, p1, q1, rfl, rfl, rfl, h1, r1⟩ := trodAll_cons r0
  obtain ⟨v2, vs2, d2, ds2, p2, q2, rfl, rfl, rfl, h2, r2⟩ := trodAll_cons r1
  obtain ⟨v3, vs3, d3, ds3, p3, q3, rfl, rfl, rfl, h3, r3⟩ := trodAll_cons r2
  obtain ⟨rfl, rfl, rfl⟩ := trodAll_nil r3
  obtain rfl : args = #[v0, v1, v2, v3] := by cases args; simp_all
  obtain ⟨a, n, c, xs, rfl, hn, hr, _⟩ := open_i64s (hval 0 38 v0 rfl rfl) h0
  obtain ⟨b, m, d, bs, rfl, hm, hs⟩ := open_bools (hval 1 46 v1 rfl rfl) h1
  obtain ⟨t, rfl, _, _, _⟩ := open_int Try.underlying2 (hval 2 2 v2 rfl rfl) h2
  obtain ⟨l, rfl, _, _, _⟩ := open_int Try.underlying2 (hval 3 2 v3 rfl rfl) h3
  exact walkCountExactly a n c xs b m d bs t l hn hm W hr hs

set_option maxRecDepth 100000 in
theorem liftedFnExactCountExactly (os : Os) (started : os.Started) (H : Type) (enc : TypeId × Value → H) :
    ReturnsInHanded {} Try.checked os 8 .any (Rows.fnExactCountExactlySpec.pre6 enc Try.prog Try.f8 Rows.fnExactCountExactlyRow.domain false) (Rows.fnExactCountExactlySpec.post enc Try.prog Try.f8 false true false false) := by
  refine returnsInHanded_of_change_sized (C := Try.checked) own started (by kernel_rfl) Try.func8
    (ChangeSpec.witness6 (enc := enc) (C := Try.checked) false ⟨#[], #[.slice none 0 0, .slice none 0 0, .int .i64 0, .int .i64 0], []⟩ 8 (by kernel_rfl) (by kernel_rfl) (by kernel_rfl) (by kernel_rfl)) ?_
  intro W base args ds gs before hval hW _ hsz _
  have hr : ∀ t ∈ Try.f8.params.toList, Try.prog.readableRec t = true ∧ t < Try.prog.types.size := by
    rw [Try.params8]
    intro t ht
    simp only [List.mem_cons, List.not_mem_nil, or_false] at ht
    rcases ht with rfl | rfl | rfl | rfl
    all_goals exact ⟨by kernel_rfl, of_decide_eq_true (by kernel_rfl)⟩
  refine (openFnExactCountExactly hval hW).mono fun e W' ⟨he, hb⟩ => ⟨_, he, ?_⟩
  refine law_post laidOut rfl hr rfl Try.underlying4 hW hb ?_
  obtain ⟨p, q, hA, hV, _⟩ := hW
  obtain ⟨rfl, _⟩ := trodVars_none hV
  rw [Try.params8] at hA
  obtain ⟨v0, vs0, d0, ds0, p0, q0, _, rfl, _, h0, r0⟩ := trodAll_cons hA
  obtain ⟨v1, vs1, d1, ds1, p1, q1, _, rfl, _, h1, r1⟩ := trodAll_cons r0
  obtain ⟨v2, vs2, d2, ds2, p2, q2, _, rfl, _, h2, r2⟩ := trodAll_cons r1
  obtain ⟨v3, vs3, d3, ds3, p3, q3, _, rfl, _, h3, r3⟩ := trodAll_cons r2
  obtain ⟨_, rfl, _⟩ := trodAll_nil r3
  rfl

theorem provedFnExactCountExactly : Rows.FnExactCountExactlySaid :=
  OpenClaim.holds_of_wide 8 Try.f8 rfl rfl rfl rfl rfl rfl rfl ⟨rfl, rfl, rfl, rfl, rfl⟩ rfl rfl rfl rfl rfl (by kernel_rfl) Try.func8 (by kernel_rfl)
    (of_decide_eq_true (by kernel_rfl)) (by unfold Func.isWrapper; first | (rw [if_pos (by decide +kernel)]; kernel_rfl) | (rw [if_neg (by decide +kernel)]; exact ⟨rfl, rfl⟩))
    (fun os started H enc _ => liftedFnExactCountExactly os started H enc)
#print axioms provedFnExactCountExactly


end Go.Proofs.Ytajekmpjebhaoaa
