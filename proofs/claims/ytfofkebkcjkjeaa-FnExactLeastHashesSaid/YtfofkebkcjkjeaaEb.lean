/- An element taken out of a slice, in the abstract machine. -/
import Derived.Test.YtfofkebkcjkjeaaAy
namespace Go.Proofs.Ytfofkebkcjkjeaa
open Go.RowKit
set_option linter.unusedSimpArgs false
set_option linter.unusedVariables false
set_option maxRecDepth 100000

theorem sets_del (xs Z : List LV) (i : Nat) (z : LV) (hi : i < xs.length) : sets (sets (xs ++ Z) i (xs.drop (i + 1))) (xs.length - 1) [z] = (xs.take i ++ xs.drop (i + 1)) ++ z :: Z := by
  refine List.ext_getElem? fun j => ?_
  have hd : (xs.drop (i + 1)).length = xs.length - (i + 1) := List.length_drop
  have ht : (xs.take i).length = i := by rw [List.length_take]; omega
  rw [sets_get _ _ _ _ (by rw [sets_length, List.length_append, List.length_singleton]; omega), sets_get _ _ _ _ (by rw [List.length_append, hd]; omega), hd, List.length_singleton]
  rcases Nat.lt_or_ge j i with h1 | h1
  · rw [if_neg (by omega), if_neg (by omega), List.append_assoc, List.getElem?_append_left (by omega), List.getElem?_append_left (by omega), List.getElem?_take, if_pos h1]
  · rcases Nat.lt_or_ge j (xs.length - 1) with h2 | h2
    · rw [if_neg (by omega), if_pos (by omega), List.append_assoc, List.getElem?_append_right (by omega), ht, List.getElem?_append_left (by omega)]
    · rcases Nat.lt_or_ge j xs.length with h3 | h3
      · rw [if_pos (by omega), List.getElem?_append_right (by rw [List.length_append, ht, hd]; omega), List.length_append, ht, hd, show j - (xs.length - 1) = 0 by omega, show j - (i + (xs.length - (i + 1))) = 0 by omega]; rfl
      · rw [if_neg (by omega), if_neg (by omega), List.getElem?_append_right (by omega), List.getElem?_append_right (by rw [List.length_append, ht, hd]; omega), List.length_append, ht, hd, show j - (i + (xs.length - (i + 1))) = (j - xs.length) + 1 by omega, List.getElem?_cons_succ]
theorem hgets_at {H : Hp} {id ver el off n : Nat} {ro : Bool} {cs ys : List LV} (h : H[id]? = some ⟨ver, ro, el, 1, cs⟩) (h1 : off + n ≤ cs.length) (h2 : (cs.drop off).take n = ys) : hgets H id ver off n = some ys := by
  simp [hgets, h, h1, h2]
theorem hput_at {H : Hp} {id ver el off : Nat} {cs ys : List LV} (h : H[id]? = some ⟨ver, false, el, 1, cs⟩) (h1 : off + ys.length ≤ cs.length) : hput H id ver off ys = some (H.set id ⟨ver, false, el, 1, sets cs off ys⟩) := by
  simp [hput, h, h1]
theorem asliceS_3 {te : TE} {H : Hp} {id ver off n : Nat} {k k' k'' : IntKind} {lo hi mx : Int} (h : liveO H id ver = true) (hs : szO H id = te.sz) (h0 : 0 ≤ lo) (h1 : lo ≤ hi) (h2 : hi ≤ mx) (h3 : mx ≤ n) :
    asliceS te H (.sl id ver off n none) (some (.int k lo)) (some (.int k' hi)) (some (.int k'' mx)) = some (.sl id ver (off + lo.toNat * te.sz) (hi.toNat - lo.toNat) (some (mx.toNat - lo.toNat))) := by
  obtain ⟨o, ho, rfl⟩ := liveO_get h
  have e : o.sz = te.sz := by simpa [szO, ho] using hs
  have := roomOf_ge' (o := o) (off := off) (n := n)
  obtain ⟨l, rfl⟩ := Int.eq_ofNat_of_zero_le h0
  obtain ⟨h', rfl⟩ := Int.eq_ofNat_of_zero_le (show 0 ≤ hi by omega)
  obtain ⟨m', rfl⟩ := Int.eq_ofNat_of_zero_le (show 0 ≤ mx by omega)
  have e2 : m' ≤ roomOf o off n none := by omega
  have e3 : l ≤ h' := by omega
  have e4 : h' ≤ m' := by omega
  simp [asliceS, ho, e, asliceB, e2, e4, e3]
theorem asliceS_up {te : TE} {H : Hp} {id ver el n : Nat} {cs : List LV} {k k' : IntKind} {lo hi : Int} (h : H[id]? = some ⟨ver, false, el, 1, cs⟩) (hs : te.sz = 1) (h0 : 0 ≤ lo) (h1 : lo ≤ hi) (h2 : n ≤ cs.length) (h3 : hi ≤ cs.length) :
    asliceS te H (.sl id ver 0 n none) (some (.int k lo)) (some (.int k' hi)) none = some (.sl id ver lo.toNat (hi.toNat - lo.toNat) none) := by
  obtain ⟨l, rfl⟩ := Int.eq_ofNat_of_zero_le h0
  obtain ⟨h', rfl⟩ := Int.eq_ofNat_of_zero_le (show 0 ≤ hi by omega)
  have hr : roomOf ⟨ver, false, el, 1, cs⟩ 0 n none = cs.length := by unfold roomOf; simp only [Nat.mul_one, Nat.zero_add, true_and, Nat.sub_zero, Nat.div_one, Nat.lt_add_one, Nat.zero_lt_one, and_true]; rw [if_pos h2]; omega
  have e3 : l ≤ h' := by omega
  have e4 : h' ≤ cs.length := by omega
  simp [asliceS, h, hs, asliceB, hr, e3, e4]
/-- Cells behind a slice forgotten. -/
theorem Wk.trim {He H : Hp} {tm : List LV} {id v e s : Nat} {cs Z : List LV} (ho : H[id]? = some ⟨v, false, e, s, cs ++ Z⟩) : Wk He tm H tm (H.set id ⟨v, false, e, s, cs⟩) := by
  intro w0 μe μ w vs hx hR hv
  have hlt := lt_of_get ho
  have hext : Ext μ H μ (H.set id ⟨v, false, e, s, cs⟩) := by
    intro i q hq
    by_cases h : i = id
    · subst h
      rw [ho] at hq; cases hq
      exact ⟨_, List.getElem?_set_self hlt, Nat.le_refl _, rfl, rfl, rfl, fun _ => rfl⟩
    · exact ⟨q, by rw [List.getElem?_set_ne (Ne.symm h)]; exact hq, Nat.le_refl _, rfl, rfl, rfl, fun _ => rfl⟩
  have hback : ∀ (i : Nat) (q : AO), (H.set id ⟨v, false, e, s, cs⟩)[i]? = some q → ∃ q0 Z', H[i]? = some q0 ∧ q.ro = q0.ro ∧ q.el = q0.el ∧ q0.cs = q.cs ++ Z' := by
    intro i q hq
    by_cases h : i = id
    · subst h
      rw [List.getElem?_set_self hlt] at hq; cases hq
      exact ⟨_, Z, ho, rfl, rfl, rfl⟩
    · rw [List.getElem?_set_ne (Ne.symm h)] at hq
      exact ⟨q, [], hq, rfl, rfl, (List.append_nil _).symm⟩
  refine ⟨μ, hx.trans hext, ⟨hR.bel, ?_, ?_, ?_, ?_⟩, hv.mono fun _ _ h => TR.ext hext h⟩
  · intro i q hq j x hj
    obtain ⟨q0, Z', h1, h2, h3, h4⟩ := hback i q hq
    have hjl : j < q.cs.length := by
      rcases Nat.lt_or_ge j q.cs.length with h | h
      · exact h
      · rw [List.getElem?_eq_none h] at hj; cases hj
    obtain ⟨u, k1, k2, k3⟩ := hR.cell i q0 h1 j x (by rw [h4, List.getElem?_append_left hjl]; exact hj)
    exact ⟨u, k1, k2, BR.ext hext k3⟩
  · intro i q hq hro
    obtain ⟨q0, Z', h1, h2, h3, h4⟩ := hback i q hq
    rcases hR.ro i q0 h1 (by rw [← h2]; exact hro) with h | h
    · rw [h4] at h; exact Or.inl (List.append_eq_nil_iff.1 h).1
    · exact Or.inr h
  · intro i q hq hro
    obtain ⟨q0, Z', h1, h2, h3, h4⟩ := hback i q hq
    obtain ⟨k1, k2, k3⟩ := hR.rw i q0 h1 (by rw [← h2]; exact hro)
    rw [h4, List.length_append] at k2
    exact ⟨k1, by omega, by rw [h3]; exact k3⟩
  · intro i j q t hq ht hqr htr
    obtain ⟨q0, _, h1, h2, _⟩ := hback i q hq
    obtain ⟨t0, _, g1, g2, _⟩ := hback j t ht
    exact hR.dj i j q0 t0 h1 g1 (by rw [← h2]; exact hqr) (by rw [← g2]; exact htr)
theorem EndA_trim {T : Tab} {He H : Hp} {rs : List ResultVar} {Q : LV → Hp → Prop} {x : Exit} {tm : List LV} {r : LV} {id v e s : Nat} {cs Z : List LV} (ho : H[id]? = some ⟨v, false, e, s, cs ++ Z⟩) (he : x = .normal ∨ x = .ret) (h : resA T tm H rs = some r)
    (hq : Q r (H.set id ⟨v, false, e, s, cs⟩)) : EndA T He rs Q x tm H := ⟨he, r, r, _, h, Wk.trim ho, hq⟩
theorem Delete_float32_c (id ver n i : Nat) (xs : List LV) (H : Hp) (h : H[id]? = some ⟨ver, false, 39, 1, xs⟩) (hx : xs.length = n) (hi : i < n) (hn : n ≤ 1048576) (hc : xs.all LV.isCell = true) :
    FunH Try.prog 235 [.sl id ver 0 n none, .int .i64 (i : Nat), .int .i64 ((i : Nat) + 1)] H fun r H' => r = .sl id ver 0 (n - 1) none ∧ H' = H.set id ⟨ver, false, 39, 1, xs.take i ++ xs.drop (i + 1)⟩ := by
  have hid := lt_of_get h
  obtain ⟨Z, hZ⟩ : ∃ Z : List LV, Z = [] := ⟨_, rfl⟩
  have hxz : xs = xs ++ Z := by rw [hZ, List.append_nil]
  rw [hxz] at h
  subst hx
  have hgq := hgets_at (off := i + 1) (n := xs.length - (i + 1)) (ys := xs.drop (i + 1)) h (by rw [List.length_append]; omega) (by rw [List.drop_append_of_le_length (by omega), List.take_append_of_le_length (by rw [List.length_drop]; omega), List.take_of_length_le (by rw [List.length_drop]; omega)])
  have hlv : liveO H id ver = true := by simp [liveO, h]
  have hsz : szO H id = 1 := by unfold szO; rw [h]
  have hdl : (xs.drop (i + 1)).length = xs.length - (i + 1) := List.length_drop
  have hca : (xs.drop (i + 1)).all LV.isCell = true := by rw [List.all_eq_true] at hc ⊢; exact fun x hx => hc x (List.mem_of_mem_drop hx)
  have ei : ((i : Int) == (i : Int) + 1) = false := by rw [beq_eq_false_iff_ne]; omega
  have et : ((i : Int) + 1).toNat = i + 1 := by omega
  have em : i + (xs.length - (i + 1)) = xs.length - 1 := by omega
  have e1 : xs.length - (xs.length - 1) = 1 := by omega
  have hup : ∀ (te : TE) (cs : List LV), te.sz = 1 → cs.length = (xs ++ Z).length → asliceS te (H.set id ⟨ver, false, 39, 1, cs⟩) (.sl id ver 0 (xs.length - 1) none) (some (.int .i64 ((xs.length - 1 : Nat) : Int))) (some (.int .i64 ((xs.length : Nat) : Int))) none = some (.sl id ver (xs.length - 1) 1 none) := by
    intro te cs ht hl
    rw [List.length_append] at hl
    rw [asliceS_up (cs := cs) (el := 39) (by simp [hid]) ht (by omega) (by omega) (by omega) (by omega)]
    simp [e1]
  have hsl : (sets (xs ++ Z) i (xs.drop (i + 1))).length = (xs ++ Z).length := sets_length _ _ _
  have hsl2 : (sets (xs ++ Z) i (xs.drop (i + 1))).length = xs.length + Z.length := by rw [hsl, List.length_append]
  (refine FunH_body tyOk Try.func235 rfl (by kernel_rfl) Try.ntmps235 (fun hcl hbd => ?_); simp only [List.length_cons, List.length_nil, Nat.reduceAdd, Nat.reduceSub, List.replicate, List.cons_append, List.nil_append])
  repeat' (first
    | ((with_reducible refine hK _ _ ?_); clear hK K)
    | ((with_reducible refine hK _ ?_); clear hK K; try simp only [])
    | ((first | (with_reducible show AOp _ _ _ _ _ _ _) | (with_reducible show AQOp _ _ _ _ _ _ _)); simp (disch := first | ((with_reducible show liveO _ _ _ = true); first | assumption | (exact liveO_setS (by assumption)) | (exact PtL.live (by assumption)) | (exact PtL.liveA (by assumption) _) | (simp only [go_sem]; done)) | omega | assumption | rfl | (simp only [go_sem]; first | done | omega)) only [go_sem, reduceIte, reduceCtorEq, Nat.reduceAdd, Nat.reduceMul, Nat.reduceSub, Nat.reduceLeDiff, Nat.lt_irrefl, Nat.reduceLT, Nat.reduceEqDiff, Nat.reduceBEq, Int.reduceLE, Int.reduceLT, Int.reduceToNat, w64, eq_self, asliceS_3, aclear, hgq, h, ei, et, em, hup, hca, hsl, hsl2])
    | (with_reducible refine AW_seq (fun K hK => ?_))
    | (with_reducible refine AW_region tyOk ?_)
    | ((with_reducible refine AW_drawn (id := 5) tyOk 6 ?_ ?_ ?_); (kernel_rfl); (kernel_rfl); simp only [List.take_succ_cons, List.take_zero, List.drop_succ_cons, List.drop_zero])
    | (with_reducible refine AOps_cons (fun K hK => ?_))
    | (with_reducible refine AQOps_cons (fun K hK => ?_))
    | ((with_reducible refine AQOps_nil ?_); try simp only [thenA, blockA, if_true, if_false, reduceIte, Nat.reduceEqDiff, reduceCtorEq])
    | ((with_reducible refine AOps_nil ?_); try simp only [thenA, blockA, if_true, if_false, reduceIte, Nat.reduceEqDiff, reduceCtorEq])
    | (with_reducible refine AW_block ?_)
    | ((first | (with_reducible refine AW_ret ?_) | (with_reducible refine AW_skip ?_) | (with_reducible refine AW_exit ?_)); try simp only [thenA, blockA, if_true, if_false, reduceIte, Nat.reduceEqDiff, reduceCtorEq])
    | ((with_reducible show AW _ _ (.cond _ _ _) _ _ _); refine AW_cond rfl (fun hg => ?_) (fun hg => ?_) <;> first | (exfalso; simp only [reduceCtorEq] at hg; done) | ((try simp only [Bool.not_eq_true', Bool.not_eq_false', decide_eq_true_eq, decide_eq_false_iff_not] at hg); try (exfalso; omega)))
    | ((with_reducible show _ ∧ _); refine And.intro (fun hg => ?_) (fun hg => ?_) <;> (try simp only [Bool.not_eq_true', Bool.not_eq_false'] at hg) <;> simp only [hg] <;> (try simp only [decide_eq_true_eq, decide_eq_false_iff_not] at hg) <;> (try (exfalso; omega)))
    | (clear hK K)
    | fail)
  have hend := sets_del xs Z i (.flt .f32 (some 0)) hi
  rw [hZ] at hend
  all_goals (refine EndA_trim (id := id) (v := ver) (e := 39) (s := 1) (cs := xs.take i ++ xs.drop (i + 1)) (Z := [(.flt .f32 (some 0))]) ?_ (by first | exact Or.inr rfl | exact Or.inl rfl) (by simp only [Try.results235, resA, aresL, go_sem] <;> rfl) ?_)
  all_goals first
    | exact ⟨rfl, by rw [List.set_set]⟩
    | (rw [List.getElem?_set_self (by simpa using hid), ← hend, hZ]; rfl)
theorem Delete_int64_c (id ver n i : Nat) (xs : List LV) (H : Hp) (h : H[id]? = some ⟨ver, false, 2, 1, xs⟩) (hx : xs.length = n) (hi : i < n) (hn : n ≤ 1048576) (hc : xs.all LV.isCell = true) :
    FunH Try.prog 236 [.sl id ver 0 n none, .int .i64 (i : Nat), .int .i64 ((i : Nat) + 1)] H fun r H' => r = .sl id ver 0 (n - 1) none ∧ H' = H.set id ⟨ver, false, 2, 1, xs.take i ++ xs.drop (i + 1)⟩ := by
  have hid := lt_of_get h
  obtain ⟨Z, hZ⟩ : ∃ Z : List LV, Z = [] := ⟨_, rfl⟩
  have hxz : xs = xs ++ Z := by rw [hZ, List.append_nil]
  rw [hxz] at h
  subst hx
  have hgq := hgets_at (off := i + 1) (n := xs.length - (i + 1)) (ys := xs.drop (i + 1)) h (by rw [List.length_append]; omega) (by rw [List.drop_append_of_le_length (by omega), List.take_append_of_le_length (by rw [List.length_drop]; omega), List.take_of_length_le (by rw [List.length_drop]; omega)])
  have hlv : liveO H id ver = true := by simp [liveO, h]
  have hsz : szO H id = 1 := by unfold szO; rw [h]
  have hdl : (xs.drop (i + 1)).length = xs.length - (i + 1) := List.length_drop
  have hca : (xs.drop (i + 1)).all LV.isCell = true := by rw [List.all_eq_true] at hc ⊢; exact fun x hx => hc x (List.mem_of_mem_drop hx)
  have ei : ((i : Int) == (i : Int) + 1) = false := by rw [beq_eq_false_iff_ne]; omega
  have et : ((i : Int) + 1).toNat = i + 1 := by omega
  have em : i + (xs.length - (i + 1)) = xs.length - 1 := by omega
  have e1 : xs.length - (xs.length - 1) = 1 := by omega
  have hup : ∀ (te : TE) (cs : List LV), te.sz = 1 → cs.length = (xs ++ Z).length → asliceS te (H.set id ⟨ver, false, 2, 1, cs⟩) (.sl id ver 0 (xs.length - 1) none) (some (.int .i64 ((xs.length - 1 : Nat) : Int))) (some (.int .i64 ((xs.length : Nat) : Int))) none = some (.sl id ver (xs.length - 1) 1 none) := by
    intro te cs ht hl
    rw [List.length_append] at hl
    rw [asliceS_up (cs := cs) (el := 2) (by simp [hid]) ht (by omega) (by omega) (by omega) (by omega)]
    simp [e1]
  have hsl : (sets (xs ++ Z) i (xs.drop (i + 1))).length = (xs ++ Z).length := sets_length _ _ _
  have hsl2 : (sets (xs ++ Z) i (xs.drop (i + 1))).length = xs.length + Z.length := by rw [hsl, List.length_append]
  (refine FunH_body tyOk Try.func236 rfl (by kernel_rfl) Try.ntmps236 (fun hcl hbd => ?_); simp only [List.length_cons, List.length_nil, Nat.reduceAdd, Nat.reduceSub, List.replicate, List.cons_append, List.nil_append])
  repeat' (first
    | ((with_reducible refine hK _ _ ?_); clear hK K)
    | ((with_reducible refine hK _ ?_); clear hK K; try simp only [])
    | ((first | (with_reducible show AOp _ _ _ _ _ _ _) | (with_reducible show AQOp _ _ _ _ _ _ _)); simp (disch := first | ((with_reducible show liveO _ _ _ = true); first | assumption | (exact liveO_setS (by assumption)) | (exact PtL.live (by assumption)) | (exact PtL.liveA (by assumption) _) | (simp only [go_sem]; done)) | omega | assumption | rfl | (simp only [go_sem]; first | done | omega)) only [go_sem, reduceIte, reduceCtorEq, Nat.reduceAdd, Nat.reduceMul, Nat.reduceSub, Nat.reduceLeDiff, Nat.lt_irrefl, Nat.reduceLT, Nat.reduceEqDiff, Nat.reduceBEq, Int.reduceLE, Int.reduceLT, Int.reduceToNat, w64, eq_self, asliceS_3, aclear, hgq, h, ei, et, em, hup, hca, hsl, hsl2])
    | (with_reducible refine AW_seq (fun K hK => ?_))
    | (with_reducible refine AW_region tyOk ?_)
    | ((with_reducible refine AW_drawn (id := 5) tyOk 6 ?_ ?_ ?_); (kernel_rfl); (kernel_rfl); simp only [List.take_succ_cons, List.take_zero, List.drop_succ_cons, List.drop_zero])
    | (with_reducible refine AOps_cons (fun K hK => ?_))
    | (with_reducible refine AQOps_cons (fun K hK => ?_))
    | ((with_reducible refine AQOps_nil ?_); try simp only [thenA, blockA, if_true, if_false, reduceIte, Nat.reduceEqDiff, reduceCtorEq])
    | ((with_reducible refine AOps_nil ?_); try simp only [thenA, blockA, if_true, if_false, reduceIte, Nat.reduceEqDiff, reduceCtorEq])
    | (with_reducible refine AW_block ?_)
    | ((first | (with_reducible refine AW_ret ?_) | (with_reducible refine AW_skip ?_) | (with_reducible refine AW_exit ?_)); try simp only [thenA, blockA, if_true, if_false, reduceIte, Nat.reduceEqDiff, reduceCtorEq])
    | ((with_reducible show AW _ _ (.cond _ _ _) _ _ _); refine AW_cond rfl (fun hg => ?_) (fun hg => ?_) <;> first | (exfalso; simp only [reduceCtorEq] at hg; done) | ((try simp only [Bool.not_eq_true', Bool.not_eq_false', decide_eq_true_eq, decide_eq_false_iff_not] at hg); try (exfalso; omega)))
    | ((with_reducible show _ ∧ _); refine And.intro (fun hg => ?_) (fun hg => ?_) <;> (try simp only [Bool.not_eq_true', Bool.not_eq_false'] at hg) <;> simp only [hg] <;> (try simp only [decide_eq_true_eq, decide_eq_false_iff_not] at hg) <;> (try (exfalso; omega)))
    | (clear hK K)
    | fail)
  have hend := sets_del xs Z i (.int .i64 0) hi
  rw [hZ] at hend
  all_goals (refine EndA_trim (id := id) (v := ver) (e := 2) (s := 1) (cs := xs.take i ++ xs.drop (i + 1)) (Z := [(.int .i64 0)]) ?_ (by first | exact Or.inr rfl | exact Or.inl rfl) (by simp only [Try.results236, resA, aresL, go_sem] <;> rfl) ?_)
  all_goals first
    | exact ⟨rfl, by rw [List.set_set]⟩
    | (rw [List.getElem?_set_self (by simpa using hid), ← hend, hZ]; rfl)
end Go.Proofs.Ytfofkebkcjkjeaa
