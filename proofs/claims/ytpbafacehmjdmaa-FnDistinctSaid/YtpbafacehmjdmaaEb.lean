/- An element taken out of a slice, in the abstract machine. -/
import Derived.Test.YtpbafacehmjdmaaZn
namespace Go.Proofs.Ytpbafacehmjdmaa
open Go.RowKit
set_option linter.unusedSimpArgs false
set_option linter.unusedVariables false
set_option maxRecDepth 100000

theorem sets_del (xs Z : List LV) (i : Nat) (z : LV) (hi : i < xs.length) : sets (sets (xs ++ Z) i (xs.drop (i + 1))) (xs.length - 1) [z] = (xs.take i ++ xs.drop (i + 1)) ++ z :: Z := by
  refine List.ext_getElem? fun j => ?_
  have hd : (xs.drop (i + 1)).length = xs.length - (i + 1) := List.length_drop
  have ht : (xs.take i).length = i := by rw [List.length_take]; omega
  rw [sets_get _ _ _ _ (by rw [sets_length, List.length_append, List.length_singleton]; omega), sets_get _ _ _ _ (by rw [List.length_append, hd]; omega), hd, List.length_singleton]
  rcases Nat.lt_or_ge j i with h1 | h1
  · rw [if_neg (by omega), if_neg (by omega), List.append_assoc, List.getElem?_append_left (by omega), List.getElem?_append_left (by omega), List.getElem?_take, if_pos h1]
  · rcases Nat.lt_or_ge j (xs.length - 1) with h2 | h2
    · rw [if_neg (by omega), if_pos (by omega), List.append_assoc, List.getElem?_append_right (by omega), ht, List.getElem?_append_left (by omega)]
    · rcases Nat.lt_or_ge j xs.length with h3 | h3
      · rw [if_pos (by omega), List.getElem?_append_right (by rw [List.length_append, ht, hd]; omega), List.length_append, ht, hd, show j - (xs.length - 1) = 0 by omega, show j - (i + (xs.length - (i + 1))) = 0 by omega]; rfl
      · rw [if_neg (by omega), if_neg (by omega), List.getElem?_append_right (by omega), List.getElem?_append_right (by rw [List.length_append, ht, hd]; omega), List.length_append, ht, hd, show j - (i + (xs.length - (i + 1))) = (j - xs.length) + 1 by omega, List.getElem?_cons_succ]
theorem hgets_at {H : Hp} {id ver el off n : Nat} {ro : Bool} {cs ys : List LV} (h : H[id]? = some ⟨ver, ro, el, 1, cs⟩) (h1 : off + n ≤ cs.length) (h2 : (cs.drop off).take n = ys) : hgets H id ver off n = some ys := by
  simp [hgets, h, h1, h2]
theorem hput_at {H : Hp} {id ver el off : Nat} {cs ys : List LV} (h : H[id]? = some ⟨ver, false, el, 1, cs⟩) (h1 : off + ys.length ≤ cs.length) : hput H id ver off ys = some (H.set id ⟨ver, false, el, 1, sets cs off ys⟩) := by
  simp [hput, h, h1]
theorem asliceS_3 {te : TE} {H : Hp} {id ver off n : Nat} {k k' k'' : IntKind} {lo hi mx : Int} (h : liveO H id ver = true) (hs : szO H id = te.sz) (h0 : 0 ≤ lo) (h1 : lo ≤ hi) (h2 : hi ≤ mx) (h3 : mx ≤ n) :
    asliceS te H (.sl id ver off n none) (some (.int k lo)) (some (.int k' hi)) (some (.int k'' mx)) = some (.sl id ver (off + lo.toNat * te.sz) (hi.toNat - lo.toNat) (some (mx.toNat - lo.toNat))) := by
  obtain ⟨o, ho, rfl⟩ := liveO_get h
  have e : o.sz = te.sz := by simpa [szO, ho] using hs
  have := roomOf_ge' (o := o) (off := off) (n := n)
  obtain ⟨l, rfl⟩ := Int.eq_ofNat_of_zero_le h0
  obtain ⟨h', rfl⟩ := Int.eq_ofNat_of_zero_le (show 0 ≤ hi by omega)
  obtain ⟨m', rfl⟩ := Int.eq_ofNat_of_zero_le (show 0 ≤ mx by omega)
  have e2 : m' ≤ roomOf o off n none := by omega
  have e3 : l ≤ h' := by omega
  have e4 : h' ≤ m' := by omega
  simp [asliceS, ho, e, asliceB, e2, e4, e3]
theorem asliceS_up {te : TE} {H : Hp} {id ver el n : Nat} {cs : List LV} {k k' : IntKind} {lo hi : Int} (h : H[id]? = some ⟨ver, false, el, 1, cs⟩) (hs : te.sz = 1) (h0 : 0 ≤ lo) (h1 : lo ≤ hi) (h2 : n ≤ cs.length) (h3 : hi ≤ cs.length) :
    asliceS te H (.sl id ver 0 n none) (some (.int k lo)) (some (.int k' hi)) none = some (.sl id ver lo.toNat (hi.toNat - lo.toNat) none) := by
  obtain ⟨l, rfl⟩ := Int.eq_ofNat_of_zero_le h0
  obtain ⟨h', rfl⟩ := Int.eq_ofNat_of_zero_le (show 0 ≤ hi by omega)
  have hr : roomOf ⟨ver, false, el, 1, cs⟩ 0 n none = cs.length := by unfold roomOf; simp only [Nat.mul_one, Nat.zero_add, true_and, Nat.sub_zero, Nat.div_one, Nat.lt_add_one, Nat.zero_lt_one, and_true]; rw [if_pos h2]; omega
  have e3 : l ≤ h' := by omega
  have e4 : h' ≤ cs.length := by omega
  simp [asliceS, h, hs, asliceB, hr, e3, e4]
/-- Cells behind a slice forgotten. -/
theorem Wk.trim {He H : Hp} {tm : List LV} {id v e s : Nat} {cs Z : List LV} (ho : H[id]? = some ⟨v, false, e, s, cs ++ Z⟩) : Wk He tm H tm (H.set id ⟨v, false, e, s, cs⟩) := by
  intro w0 μe μ w vs hx hR hv
  have hlt := lt_of_get ho
  have hext : Ext μ H μ (H.set id ⟨v, false, e, s, cs⟩) := by
    intro i q hq
    by_cases h : i = id
    · subst h
      rw [ho] at hq; cases hq
      exact ⟨_, List.getElem?_set_self hlt, Nat.le_refl _, rfl, rfl, rfl, fun _ => rfl⟩
    · exact ⟨q, by rw [List.getElem?_set_ne (Ne.symm h)]; exact hq, Nat.le_refl _, rfl, rfl, rfl, fun _ => rfl⟩
  have hback : ∀ (i : Nat) (q : AO), (H.set id ⟨v, false, e, s, cs⟩)[i]? = some q → ∃ q0 Z', H[i]? = some q0 ∧ q.ro = q0.ro ∧ q.el = q0.el ∧ q0.cs = q.cs ++ Z' := by
    intro i q hq
    by_cases h : i = id
    · subst h
      rw [List.getElem?_set_self hlt] at hq; cases hq
      exact ⟨_, Z, ho, rfl, rfl, rfl⟩
    · rw [List.getElem?_set_ne (Ne.symm h)] at hq
      exact ⟨q, [], hq, rfl, rfl, (List.append_nil _).symm⟩
  refine ⟨μ, hx.trans hext, ⟨hR.bel, ?_, ?_, ?_, ?_⟩, hv.mono fun _ _ h => TR.ext hext h⟩
  · intro i q hq j x hj
    obtain ⟨q0, Z', h1, h2, h3, h4⟩ := hback i q hq
    have hjl : j < q.cs.length := by
      rcases Nat.lt_or_ge j q.cs.length with h | h
      · exact h
      · rw [List.getElem?_eq_none h] at hj; cases hj
    obtain ⟨u, k1, k2, k3⟩ := hR.cell i q0 h1 j x (by rw [h4, List.getElem?_append_left hjl]; exact hj)
    exact ⟨u, k1, k2, BR.ext hext k3⟩
  · intro i q hq hro
    obtain ⟨q0, Z', h1, h2, h3, h4⟩ := hback i q hq
    rcases hR.ro i q0 h1 (by rw [← h2]; exact hro) with h | h
    · rw [h4] at h; exact Or.inl (List.append_eq_nil_iff.1 h).1
    · exact Or.inr h
  · intro i q hq hro
    obtain ⟨q0, Z', h1, h2, h3, h4⟩ := hback i q hq
    obtain ⟨k1, k2, k3⟩ := hR.rw i q0 h1 (by rw [← h2]; exact hro)
    rw [h4, List.length_append] at k2
    exact ⟨k1, by omega, by rw [h3]; exact k3⟩
  · intro i j q t hq ht hqr htr
    obtain ⟨q0, _, h1, h2, _⟩ := hback i q hq
    obtain ⟨t0, _, g1, g2, _⟩ := hback j t ht
    exact hR.dj i j q0 t0 h1 g1 (by rw [← h2]; exact hqr) (by rw [← g2]; exact htr)
theorem EndA_trim {T : Tab} {He H : Hp} {rs : List ResultVar} {Q : LV → Hp → Prop} {x : Exit} {tm : List LV} {r : LV} {id v e s : Nat} {cs Z : List LV} (ho : H[id]? = some ⟨v, false, e, s, cs ++ Z⟩) (he : x = .normal ∨ x = .ret) (h : resA T tm H rs = some r)
    (hq : Q r (H.set id ⟨v, false, e, s, cs⟩)) : EndA T He rs Q x tm H := ⟨he, r, r, _, h, Wk.trim ho, hq⟩
end Go.Proofs.Ytpbafacehmjdmaa
