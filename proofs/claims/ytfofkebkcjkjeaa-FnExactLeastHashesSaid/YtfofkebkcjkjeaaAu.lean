/- The abstract machine: the test whether a slice is nil; copies of slices. -/
import Derived.Test.YtfofkebkcjkjeaaAx
import Derived.Test.YtfofkebkcjkjeaaAs
import Derived.Laws.Cover3
namespace Go.Proofs.Ytfofkebkcjkjeaa
open Go.RowKit
set_option linter.unusedSimpArgs false
set_option linter.unusedVariables false
set_option linter.unusedSectionVars false
set_option maxRecDepth 100000

theorem aappO_grow0 {td : TD} {b e : Nat} {zs news : List LV} {id v m : Nat} {H : Hp} (h3 : m * b ≤ 140737488355328) (h4 : m ≤ 17592186044416) (h5 : 0 < m) :
    aappO ⟨td, 1, b, zs⟩ e H id v 0 0 none m news (some ⟨v, false, e, 1, []⟩) = some (.sl id (v + 1) 0 m none, H.set id ⟨v + 1, false, e, 1, news⟩) := by
  rw [aappO_grow (by rfl) (by rfl) (by rw [Nat.zero_add]; exact h3) (by omega) h5, Nat.zero_add]; rfl
attribute [go_sem] aappO_grow0
theorem slice_nil {μ : Nat → Pl} {H : Hp} {lv : LV} {cs : List LV} {v : Value} (h : RdL H lv cs) (hv : TR μ H lv v) : ∃ a n c, v = .slice a n c ∧ (a = none → cs = []) := by
  obtain ⟨h1, h2, h3⟩ := h
  cases lv <;> try (cases h1; done)
  case nils =>
    obtain ⟨a, rfl⟩ := hv
    exact ⟨a, 0, 0, rfl, fun _ => List.eq_nil_of_length_eq_zero (by simp [lenOf] at h1; omega)⟩
  case emp =>
    obtain ⟨a, c, rfl⟩ := hv
    exact ⟨a, 0, c, rfl, fun _ => List.eq_nil_of_length_eq_zero (by simp [lenOf] at h1; omega)⟩
  case sl id ver off n cap =>
    obtain ⟨o, a, c, g1, g2, rfl, g4⟩ := hv
    refine ⟨a, n, c, rfl, fun e => ?_⟩
    have hl : n = cs.length := by simpa [lenOf] using h1
    have hver : o.ver = ver := by
      simp only [cellsOf, hgets, g1] at h2
      split at h2
      · rename_i h; exact h.1
      · cases h2
    obtain ⟨k1, k2, _⟩ := g4 hver.symm
    refine List.eq_nil_of_length_eq_zero ?_
    rcases Nat.eq_zero_or_pos c with h0 | h0
    · omega
    · rw [k2 h0] at e; cases e

theorem AW_nilcmp {P : Program} {T : Tab} (hT : TabOk P T) {He : Hp} {id : Nat} {tm : List LV} {H : Hp} {Q : Exit → List LV → Hp → Prop} {o1 o2 : Oper} {x s d : Nat} {t yt e : TypeId} {lv : LV} {cs : List LV}
    (h1 : o1.op = .move (.tmp x)) (g1 : o1.guard = none) (d1 : o1.dst = some s) (h2 : o2.op = .binOp .eql t (.tmp s) (.const (.slice none 0 0)) yt) (g2 : o2.guard = none) (d2 : o2.dst = some d)
    (hu : P.underlying t = some (.slice e)) (hx : tm[x]? = some lv) (hs : s < tm.length) (hr : RdL H lv cs)
    (h : ∀ b : Bool, (b = true → cs = []) → Q .normal ((tm.set s lv).set d (.bool b)) H) : AW P He (.region id [o1, o2].toArray false) tm H Q := by
  intro w0 μe μ w a e1 e2 e3 e4
  refine wp_region_list ?_
  rw [List.toList_toArray]
  simp only [wpList]
  have hw1 : awant [o1, o2] tm o1 = some true := by unfold awant; rw [g1]
  rw [awant_sound e3 hw1]
  simp only [if_true]
  refine Or.inl (ADo_sound hT (K := fun tm' H' => tm' = tm.set s lv ∧ H' = H) ?_ e2 e3 fun tm' H' μ' w' a' hk hx' hR' ha' hd' => ?_)
  · unfold ADo
    rw [h1]
    simp only [acall, aop, d1, putA]
    refine ⟨?_, trivial⟩
    simp [ev, List.getD, hx]
  · obtain ⟨rfl, rfl⟩ := hk
    have hw2 : awant [o1, o2] (tm.set s lv) o2 = some true := by unfold awant; rw [g2]
    rw [awant_sound ha' hw2]
    simp only [if_true]
    refine Or.inl ?_
    have hv := TR_ev ha' (.tmp s)
    have hev : ev (tm.set s lv) (.tmp s) = lv := by simp [ev, List.getD, hs]
    rw [hev] at hv
    obtain ⟨p, n, c, hval, hnil⟩ := slice_nil hr hv
    have hc : a'.eval (.const (.slice none 0 0)) = .slice none 0 0 := rfl
    have hrun : (execOp a'.eval o2).run P w' = .ok (.value (.bool p.isNone)) w' := by
      obtain ⟨dst, op, type, pos, after, guard⟩ := o2
      simp only at h2
      subst h2
      simp [execOp, hval, hc, eqGuard, binOp, run_equal_slice_nil w' t e p n c hu]
    unfold Oper.wp
    rw [hrun]
    refine ⟨μ', (tm.set s lv).set d (.bool p.isNone), H', (put_defers _ _ _).trans (hd'.trans e4), e1.trans hx', hR', ?_, h p.isNone fun hb => hnil (by simpa using hb)⟩
    have := put_rel ha' o2.dst (show TR μ' H' (.bool p.isNone) (.bool p.isNone) from rfl)
    rw [d2] at this ⊢
    exact this
end Go.Proofs.Ytfofkebkcjkjeaa
