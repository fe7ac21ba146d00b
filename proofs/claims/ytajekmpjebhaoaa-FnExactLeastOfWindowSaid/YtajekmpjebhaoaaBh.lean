/- The reference's GreatestOfWindow, LeastOfWindow in the abstract machine. -/
import Derived.Test.YtajekmpjebhaoaaBg
namespace Go.Proofs.Ytajekmpjebhaoaa
open Go.RowKit
set_option linter.unusedSimpArgs false
set_option linter.unusedVariables false
set_option maxRecDepth 100000

/-- A fold from the last element over all of them is the fold of them. -/
theorem foldl_max_ge (l : List Int) : ∀ a : Int, a ≤ l.foldl max a ∧ (∀ x ∈ l, x ≤ l.foldl max a) ∧ (l.foldl max a = a ∨ l.foldl max a ∈ l) := by
  induction l with
  | nil => intro a; simp
  | cons b l ih =>
    intro a
    obtain ⟨h1, h2, h3⟩ := ih (max a b)
    simp only [List.foldl_cons, List.mem_cons]
    refine ⟨by omega, ?_, ?_⟩
    · rintro x (rfl | hx)
      · omega
      · exact h2 x hx
    · rcases h3 with h3 | h3
      · rw [h3]; omega
      · exact Or.inr (Or.inr h3)
theorem foldl_min_le (l : List Int) : ∀ a : Int, l.foldl min a ≤ a ∧ (∀ x ∈ l, l.foldl min a ≤ x) ∧ (l.foldl min a = a ∨ l.foldl min a ∈ l) := by
  induction l with
  | nil => intro a; simp
  | cons b l ih =>
    intro a
    obtain ⟨h1, h2, h3⟩ := ih (min a b)
    simp only [List.foldl_cons, List.mem_cons]
    refine ⟨by omega, ?_, ?_⟩
    · rintro x (rfl | hx)
      · omega
      · exact h2 x hx
    · rcases h3 with h3 | h3
      · rw [h3]; omega
      · exact Or.inr (Or.inr h3)
theorem foldM_max (l : List Int) (a : Int) (ha : a ∈ l) : l.foldl max a = foldM max l := by
  obtain ⟨h1, h2, h3⟩ := foldl_max_ge l a
  cases l with
  | nil => simp at ha
  | cons b l =>
    obtain ⟨g1, g2, g3⟩ := foldl_max_ge l b
    have e : foldM max (b :: l) = l.foldl max b := rfl
    rw [e]
    have k1 : (b :: l).foldl max a ∈ b :: l := by rcases h3 with h3 | h3; rw [h3]; exact ha; exact h3
    have k2 : l.foldl max b ∈ b :: l := by rcases g3 with g3 | g3; rw [g3]; simp; simp [g3]
    have k3 := h2 _ k2
    rcases List.mem_cons.1 k1 with k | k
    · rw [k] at k3 ⊢; omega
    · have := g2 _ k; omega
theorem foldM_min (l : List Int) (a : Int) (ha : a ∈ l) : l.foldl min a = foldM min l := by
  obtain ⟨h1, h2, h3⟩ := foldl_min_le l a
  cases l with
  | nil => simp at ha
  | cons b l =>
    obtain ⟨g1, g2, g3⟩ := foldl_min_le l b
    have e : foldM min (b :: l) = l.foldl min b := rfl
    rw [e]
    have k1 : (b :: l).foldl min a ∈ b :: l := by rcases h3 with h3 | h3; rw [h3]; exact ha; exact h3
    have k2 : l.foldl min b ∈ b :: l := by rcases g3 with g3 | g3; rw [g3]; simp; simp [g3]
    have k3 := h2 _ k2
    rcases List.mem_cons.1 k1 with k | k
    · rw [k] at k3 ⊢; omega
    · have := g2 _ k; omega
theorem sGreatestOfWindow_c (lv : LV) (xs : List Int) (l : Int) (H : Hp) (h : RdL H lv (xs.map (LV.int .i64))) (hn : xs.length ≤ 1048576) :
    FunH Try.prog 57 [lv, .int .i64 l] H fun r H' => r = .tup [.sl H.length 0 0 (wRes max xs l).length none, .bool (wOk xs l)] ∧ H' = H ++ [⟨0, false, 2, 1, (wRes max xs l).map (LV.int .i64)⟩] := by
  unfold wRes
  (refine FunH_body tyOk Try.func57 rfl (by kernel_rfl) Try.ntmps57 (fun hcl hbd => ?_); simp only [List.length_cons, List.length_nil, Nat.reduceAdd, Nat.reduceSub, List.replicate, List.cons_append, List.nil_append])
  repeat' (first
    | ((with_reducible refine hK _ _ ?_); clear hK K)
    | (with_reducible refine AW_seq (fun K hK => ?_))
    | (with_reducible refine AW_region tyOk ?_)
    | ((with_reducible refine AOps_cons (fun K hK => ?_)); simp (disch := first | omega | assumption | rfl | (exact liveO_setS (by assumption)) | (simp only [go_sem]; first | done | omega)) only [go_sem, reduceIte, reduceCtorEq, Nat.reduceAdd, Nat.reduceMul, Nat.reduceSub, Nat.reduceLeDiff, Nat.lt_irrefl, Nat.reduceEqDiff, Nat.reduceBEq, Int.reduceLE, Int.reduceLT, Int.reduceToNat, w64, eq_self, h.lenm])
    | ((with_reducible refine AOps_nil ?_); try simp only [thenA, blockA, if_true, if_false, reduceIte])
    | (with_reducible refine AW_block ?_)
    | ((with_reducible refine AW_ret ?_); try simp only [thenA, blockA])
    | ((with_reducible refine AW_skip ?_); try simp only [thenA, blockA])
    | ((with_reducible refine AW_exit ?_); try simp only [thenA, blockA, if_true, if_false, reduceIte, Nat.reduceEqDiff, reduceCtorEq])
    | (refine AW_cond rfl (fun hg => ?_) (fun hg => ?_) <;> first | (exfalso; simp only [reduceCtorEq] at hg; done) | ((try simp only [Bool.not_eq_true', Bool.not_eq_false', decide_eq_true_eq, decide_eq_false_iff_not] at hg); try (exfalso; omega)))
    | (refine And.intro (fun hg => ?_) (fun hg => ?_) <;> (try simp only [Bool.not_eq_true', Bool.not_eq_false'] at hg) <;> simp only [hg] <;> (try simp only [decide_eq_true_eq, decide_eq_false_iff_not] at hg))
    | ((first | (refine FunH.mono (l06List_c _ _ _ _ (by first | assumption | omega | rfl | exact RdL.app (by assumption) _ | exact RdL_h0 rfl (by simp) | exact RdL_hj rfl (by simp) | exact (hp_get0 _ _).trans rfl | exact (hp_getj _ _ _).trans rfl | exact RdL_nil | exact RdL_emp | (simp; done) | (simp; omega)) (by first | assumption | omega | rfl | exact RdL.app (by assumption) _ | exact RdL_h0 rfl (by simp) | exact RdL_hj rfl (by simp) | exact (hp_get0 _ _).trans rfl | exact (hp_getj _ _ _).trans rfl | exact RdL_nil | exact RdL_emp | (simp; done) | (simp; omega))) ?_) | (refine FunH.mono (l06Last_c _ _ _ _ _ (by first | assumption | omega | rfl | exact RdL.app (by assumption) _ | exact RdL_h0 rfl (by simp) | exact RdL_hj rfl (by simp) | exact (hp_get0 _ _).trans rfl | exact (hp_getj _ _ _).trans rfl | exact RdL_nil | exact RdL_emp | (simp; done) | (simp; omega)) (by first | assumption | omega | rfl | exact RdL.app (by assumption) _ | exact RdL_h0 rfl (by simp) | exact RdL_hj rfl (by simp) | exact (hp_get0 _ _).trans rfl | exact (hp_getj _ _ _).trans rfl | exact RdL_nil | exact RdL_emp | (simp; done) | (simp; omega)) (by first | assumption | omega | rfl | exact RdL.app (by assumption) _ | exact RdL_h0 rfl (by simp) | exact RdL_hj rfl (by simp) | exact (hp_get0 _ _).trans rfl | exact (hp_getj _ _ _).trans rfl | exact RdL_nil | exact RdL_emp | (simp; done) | (simp; omega)) (by first | assumption | omega | rfl | exact RdL.app (by assumption) _ | exact RdL_h0 rfl (by simp) | exact RdL_hj rfl (by simp) | exact (hp_get0 _ _).trans rfl | exact (hp_getj _ _ _).trans rfl | exact RdL_nil | exact RdL_emp | (simp; done) | (simp; omega)) (by first | assumption | omega | rfl | exact RdL.app (by assumption) _ | exact RdL_h0 rfl (by simp) | exact RdL_hj rfl (by simp) | exact (hp_get0 _ _).trans rfl | exact (hp_getj _ _ _).trans rfl | exact RdL_nil | exact RdL_emp | (simp; done) | (simp; omega))) ?_) | (refine FunH.mono (l00Max_c _ _ _) ?_)); rintro r H1 ⟨hr1, hr2⟩; replace hr1 := hr1.symm; replace hr2 := hr2.symm; subst hr1; subst hr2; try simp (disch := first | omega | assumption | rfl | (exact liveO_setS (by assumption)) | (simp only [go_sem]; first | done | omega)) only [go_sem, reduceIte, reduceCtorEq, Nat.reduceAdd, Nat.reduceMul, Nat.reduceSub, Nat.reduceLeDiff, Nat.lt_irrefl, Nat.reduceEqDiff, Nat.reduceBEq, Int.reduceLE, Int.reduceLT, Int.reduceToNat, w64, eq_self, h.lenm])
    | (clear hK K)
    | fail)
  · simp only [hg, Bool.false_eq_true, if_false]
    refine EndA_rows0 [none] hcl (by first | exact Or.inr rfl | exact Or.inl rfl) (by simp only [Try.results57, resA, aresL, go_sem, reduceIte, reduceCtorEq, Nat.reduceAdd, Nat.reduceMul, Nat.reduceSub, Nat.reduceLeDiff, Nat.lt_irrefl, Nat.reduceEqDiff, Nat.reduceBEq, Int.reduceLE, Int.reduceLT, Int.reduceToNat, w64, eq_self] <;> rfl) (by decide) ?_ ?_ ⟨rfl, rfl⟩
    rotate_left
    · repeat' (first | exact trivial | apply TdT.tup | apply TdT.one | apply TdL.agg | apply TdL.cell | exact TdB.old _ trivial rfl | exact TdB.virt 0 rfl | exact TdB.junk _ | exact TdB.old _ (by assumption) (by assumption) | refine And.intro ?_ ?_)
    all_goals (repeat' (first | (with_reducible exact RowOk.none) | ((with_reducible apply RowOk.eq); (exact rfl); rotate_left; (first | (with_reducible exact scal_int _ _) | (with_reducible exact scal_flt _ _) | (with_reducible exact scal_bool _) | (simp [LV.isCell, bnd]; done))) | exact trivial | refine And.intro ?_ ?_))
    all_goals (try rfl)
  · have hw := hg
    have hl2 : 1 ≤ l ∧ l ≤ 128 := by unfold wOk at hg; simp [inB] at hg; omega
    refine AW_loopV [6, 7, 8, 9, 10, 16, 17, 18, 19, 20, 21, 22, 23, 24, 25, 26, 27, 28, 29, 30, 31, 32, 33, 34, 35, 36, 37, 38, 39, 40, 41, 42, 43, 44, 45] (fun p : Nat × Nat × Hp => [(6, .sl H.length p.2.1 0 p.1 none), (7, .int .i64 (p.1 : Nat))]) (fun p => H ++ ⟨p.2.1, false, 2, 1, (lastM max xs l p.1).map (LV.int .i64)⟩ :: p.2.2) (fun p => p.1 ≤ xs.length) (fun p => xs.length - p.1) (0, 0, []) (Nat.zero_le _) ?_ rfl ?_
    · simp only [junkAll, setAll, List.foldl_cons, List.foldl_nil, List.set_cons_succ, List.set_cons_zero, JL, true_or, or_true, and_true, true_and, reduceCtorEq, false_or, or_false, LV.int.injEq, LV.bool.injEq, LV.flt.injEq, LV.sl.injEq, LV.ptr.injEq, eq_self, Int.natCast_add, Int.natCast_one, Int.natCast_zero, Int.ofNat_zero]
    · intro ⟨k, ver, G⟩ hk K hK
      simp only at hk
      have hll := lastM_len max xs l k
      simp only [junkAll, setAll, List.foldl_cons, List.foldl_nil, List.set_cons_succ, List.set_cons_zero]
      repeat' (first
        | ((with_reducible refine hK _ _ ?_); clear hK K)
        | (with_reducible refine AW_seq (fun K hK => ?_))
        | (with_reducible refine AW_region tyOk ?_)
        | ((with_reducible refine AOps_cons (fun K hK => ?_)); simp (disch := first | omega | assumption | rfl | (exact liveO_setS (by assumption)) | (simp only [go_sem]; first | done | omega)) only [go_sem, reduceIte, reduceCtorEq, Nat.reduceAdd, Nat.reduceMul, Nat.reduceSub, Nat.reduceLeDiff, Nat.lt_irrefl, Nat.reduceEqDiff, Nat.reduceBEq, Int.reduceLE, Int.reduceLT, Int.reduceToNat, w64, eq_self, h.lenm, h.idxmA, h.ldmA])
        | ((with_reducible refine AOps_nil ?_); try simp only [thenA, blockA, if_true, if_false, reduceIte])
        | (with_reducible refine AW_block ?_)
        | ((with_reducible refine AW_ret ?_); try simp only [thenA, blockA])
        | ((with_reducible refine AW_skip ?_); try simp only [thenA, blockA])
        | ((with_reducible refine AW_exit ?_); try simp only [thenA, blockA, if_true, if_false, reduceIte, Nat.reduceEqDiff, reduceCtorEq])
        | (refine AW_cond rfl (fun hg => ?_) (fun hg => ?_) <;> first | (exfalso; simp only [reduceCtorEq] at hg; done) | ((try simp only [Bool.not_eq_true', Bool.not_eq_false', decide_eq_true_eq, decide_eq_false_iff_not] at hg); try (exfalso; omega)))
        | (refine And.intro (fun hg => ?_) (fun hg => ?_) <;> (try simp only [Bool.not_eq_true', Bool.not_eq_false'] at hg) <;> simp only [hg] <;> (try simp only [decide_eq_true_eq, decide_eq_false_iff_not] at hg))
        | ((first | (refine FunH.mono (l06List_c _ _ _ _ (by first | assumption | omega | rfl | exact RdL.app (by assumption) _ | exact RdL_h0 rfl (by simp) | exact RdL_hj rfl (by simp) | exact (hp_get0 _ _).trans rfl | exact (hp_getj _ _ _).trans rfl | exact RdL_nil | exact RdL_emp | (simp; done) | (simp; omega)) (by first | assumption | omega | rfl | exact RdL.app (by assumption) _ | exact RdL_h0 rfl (by simp) | exact RdL_hj rfl (by simp) | exact (hp_get0 _ _).trans rfl | exact (hp_getj _ _ _).trans rfl | exact RdL_nil | exact RdL_emp | (simp; done) | (simp; omega))) ?_) | (refine FunH.mono (l06Last_c _ _ _ _ _ (by first | assumption | omega | rfl | exact RdL.app (by assumption) _ | exact RdL_h0 rfl (by simp) | exact RdL_hj rfl (by simp) | exact (hp_get0 _ _).trans rfl | exact (hp_getj _ _ _).trans rfl | exact RdL_nil | exact RdL_emp | (simp; done) | (simp; omega)) (by first | assumption | omega | rfl | exact RdL.app (by assumption) _ | exact RdL_h0 rfl (by simp) | exact RdL_hj rfl (by simp) | exact (hp_get0 _ _).trans rfl | exact (hp_getj _ _ _).trans rfl | exact RdL_nil | exact RdL_emp | (simp; done) | (simp; omega)) (by first | assumption | omega | rfl | exact RdL.app (by assumption) _ | exact RdL_h0 rfl (by simp) | exact RdL_hj rfl (by simp) | exact (hp_get0 _ _).trans rfl | exact (hp_getj _ _ _).trans rfl | exact RdL_nil | exact RdL_emp | (simp; done) | (simp; omega)) (by first | assumption | omega | rfl | exact RdL.app (by assumption) _ | exact RdL_h0 rfl (by simp) | exact RdL_hj rfl (by simp) | exact (hp_get0 _ _).trans rfl | exact (hp_getj _ _ _).trans rfl | exact RdL_nil | exact RdL_emp | (simp; done) | (simp; omega)) (by first | assumption | omega | rfl | exact RdL.app (by assumption) _ | exact RdL_h0 rfl (by simp) | exact RdL_hj rfl (by simp) | exact (hp_get0 _ _).trans rfl | exact (hp_getj _ _ _).trans rfl | exact RdL_nil | exact RdL_emp | (simp; done) | (simp; omega))) ?_) | (refine FunH.mono (l00Max_c _ _ _) ?_)); rintro r H1 ⟨hr1, hr2⟩; replace hr1 := hr1.symm; replace hr2 := hr2.symm; subst hr1; subst hr2; try simp (disch := first | omega | assumption | rfl | (exact liveO_setS (by assumption)) | (simp only [go_sem]; first | done | omega)) only [go_sem, reduceIte, reduceCtorEq, Nat.reduceAdd, Nat.reduceMul, Nat.reduceSub, Nat.reduceLeDiff, Nat.lt_irrefl, Nat.reduceEqDiff, Nat.reduceBEq, Int.reduceLE, Int.reduceLT, Int.reduceToNat, w64, eq_self, h.lenm, h.idxmA, h.ldmA])
        | (clear hK K)
        | fail)
      · have hfl := fromW_le k l hl2.1
        have hs := (h.app (⟨ver, false, 2, 1, (lastM max xs l k).map (LV.int .i64)⟩ :: G)).subm (l := fromW k l) (m := k + 1 - fromW k l) (by omega) (by omega)
        have hln := lastL_len xs l k (by omega)
        change RdL _ _ ((lastL xs l k).map (LV.int .i64)) at hs
        refine AW_loopV [8, 10, 30, 31, 32, 33, 34, 35, 36, 37, 38, 39, 40, 41] (fun j : Nat => [(8, .int .i64 (((lastL xs l k).take j).foldl max (ix xs k))), (10, .int .i64 (j : Nat))]) (fun _ => H ++ ⟨ver, false, 2, 1, (lastM max xs l k).map (LV.int .i64)⟩ :: G) (fun j => j ≤ (lastL xs l k).length) (fun j => (lastL xs l k).length - j) 0 (Nat.zero_le _) ?_ rfl ?_
        · simp only [junkAll, setAll, List.foldl_cons, List.foldl_nil, List.set_cons_succ, List.set_cons_zero, JL, true_or, or_true, and_true, true_and, reduceCtorEq, false_or, or_false, LV.int.injEq, LV.bool.injEq, LV.flt.injEq, LV.sl.injEq, LV.ptr.injEq, eq_self, Int.natCast_add, Int.natCast_one, Int.natCast_zero, Int.ofNat_zero]; simp
        · intro j hj K hK
          simp only [junkAll, setAll, List.foldl_cons, List.foldl_nil, List.set_cons_succ, List.set_cons_zero]
          repeat' (first
            | ((with_reducible refine hK _ _ ?_); clear hK K)
            | (with_reducible refine AW_seq (fun K hK => ?_))
            | (with_reducible refine AW_region tyOk ?_)
            | ((with_reducible refine AOps_cons (fun K hK => ?_)); simp (disch := first | omega | assumption | rfl | (exact liveO_setS (by assumption)) | (simp only [go_sem]; first | done | omega)) only [go_sem, reduceIte, reduceCtorEq, Nat.reduceAdd, Nat.reduceMul, Nat.reduceSub, Nat.reduceLeDiff, Nat.lt_irrefl, Nat.reduceEqDiff, Nat.reduceBEq, Int.reduceLE, Int.reduceLT, Int.reduceToNat, w64, eq_self, hs.lenm, hs.idxm, hs.ldm])
            | ((with_reducible refine AOps_nil ?_); try simp only [thenA, blockA, if_true, if_false, reduceIte])
            | (with_reducible refine AW_block ?_)
            | ((with_reducible refine AW_ret ?_); try simp only [thenA, blockA])
            | ((with_reducible refine AW_skip ?_); try simp only [thenA, blockA])
            | ((with_reducible refine AW_exit ?_); try simp only [thenA, blockA, if_true, if_false, reduceIte, Nat.reduceEqDiff, reduceCtorEq])
            | (refine AW_cond rfl (fun hg => ?_) (fun hg => ?_) <;> first | (exfalso; simp only [reduceCtorEq] at hg; done) | ((try simp only [Bool.not_eq_true', Bool.not_eq_false', decide_eq_true_eq, decide_eq_false_iff_not] at hg); try (exfalso; omega)))
            | (refine And.intro (fun hg => ?_) (fun hg => ?_) <;> (try simp only [Bool.not_eq_true', Bool.not_eq_false'] at hg) <;> simp only [hg] <;> (try simp only [decide_eq_true_eq, decide_eq_false_iff_not] at hg))
            | ((first | (refine FunH.mono (l06List_c _ _ _ _ (by first | assumption | omega | rfl | exact RdL.app (by assumption) _ | exact RdL_h0 rfl (by simp) | exact RdL_hj rfl (by simp) | exact (hp_get0 _ _).trans rfl | exact (hp_getj _ _ _).trans rfl | exact RdL_nil | exact RdL_emp | (simp; done) | (simp; omega)) (by first | assumption | omega | rfl | exact RdL.app (by assumption) _ | exact RdL_h0 rfl (by simp) | exact RdL_hj rfl (by simp) | exact (hp_get0 _ _).trans rfl | exact (hp_getj _ _ _).trans rfl | exact RdL_nil | exact RdL_emp | (simp; done) | (simp; omega))) ?_) | (refine FunH.mono (l06Last_c _ _ _ _ _ (by first | assumption | omega | rfl | exact RdL.app (by assumption) _ | exact RdL_h0 rfl (by simp) | exact RdL_hj rfl (by simp) | exact (hp_get0 _ _).trans rfl | exact (hp_getj _ _ _).trans rfl | exact RdL_nil | exact RdL_emp | (simp; done) | (simp; omega)) (by first | assumption | omega | rfl | exact RdL.app (by assumption) _ | exact RdL_h0 rfl (by simp) | exact RdL_hj rfl (by simp) | exact (hp_get0 _ _).trans rfl | exact (hp_getj _ _ _).trans rfl | exact RdL_nil | exact RdL_emp | (simp; done) | (simp; omega)) (by first | assumption | omega | rfl | exact RdL.app (by assumption) _ | exact RdL_h0 rfl (by simp) | exact RdL_hj rfl (by simp) | exact (hp_get0 _ _).trans rfl | exact (hp_getj _ _ _).trans rfl | exact RdL_nil | exact RdL_emp | (simp; done) | (simp; omega)) (by first | assumption | omega | rfl | exact RdL.app (by assumption) _ | exact RdL_h0 rfl (by simp) | exact RdL_hj rfl (by simp) | exact (hp_get0 _ _).trans rfl | exact (hp_getj _ _ _).trans rfl | exact RdL_nil | exact RdL_emp | (simp; done) | (simp; omega)) (by first | assumption | omega | rfl | exact RdL.app (by assumption) _ | exact RdL_h0 rfl (by simp) | exact RdL_hj rfl (by simp) | exact (hp_get0 _ _).trans rfl | exact (hp_getj _ _ _).trans rfl | exact RdL_nil | exact RdL_emp | (simp; done) | (simp; omega))) ?_) | (refine FunH.mono (l00Max_c _ _ _) ?_)); rintro r H1 ⟨hr1, hr2⟩; replace hr1 := hr1.symm; replace hr2 := hr2.symm; subst hr1; subst hr2; try simp (disch := first | omega | assumption | rfl | (exact liveO_setS (by assumption)) | (simp only [go_sem]; first | done | omega)) only [go_sem, reduceIte, reduceCtorEq, Nat.reduceAdd, Nat.reduceMul, Nat.reduceSub, Nat.reduceLeDiff, Nat.lt_irrefl, Nat.reduceEqDiff, Nat.reduceBEq, Int.reduceLE, Int.reduceLT, Int.reduceToNat, w64, eq_self, hs.lenm, hs.idxm, hs.ldm])
            | (clear hK K)
            | fail)
          · refine hK _ _ (j + 1) (by (try simp only); omega) (by (try simp only); omega) ?j1 ?h1
            case h1 => (rfl)
            case j1 => (simp only [junkAll, setAll, List.foldl_cons, List.foldl_nil, List.set_cons_succ, List.set_cons_zero, JL, true_or, or_true, and_true, true_and, reduceCtorEq, false_or, or_false, LV.int.injEq, LV.bool.injEq, LV.flt.injEq, LV.sl.injEq, LV.ptr.injEq, eq_self, Int.natCast_add, Int.natCast_one, Int.natCast_zero, Int.ofNat_zero]; rw [take_ix _ j (by omega), List.foldl_append]; rfl)
          · have ej : j = (lastL xs l k).length := by omega
            have em : ix xs k ∈ lastL xs l k := by
              have e0 : ix (lastL xs l k) (k - fromW k l) = ix xs k := by
                rw [ix_eq _ _ (by omega), ix_eq _ _ (by omega)]
                simp only [lastL, List.getElem_take, List.getElem_drop]
                congr 1; omega
              rw [← e0]; exact ix_mem _ _ (by omega)
            refine hK _ _ (k + 1, ver + 1, ?G2) (by (try simp only); omega) (by (try simp only); omega) ?j2 ?h2
            case h2 => (rw [lastM_succ, List.map_append, ej, List.take_length, foldM_max _ _ em]; rfl)
            case j2 => (simp only [junkAll, setAll, List.foldl_cons, List.foldl_nil, List.set_cons_succ, List.set_cons_zero, JL, true_or, or_true, and_true, true_and, reduceCtorEq, false_or, or_false, LV.int.injEq, LV.bool.injEq, LV.flt.injEq, LV.sl.injEq, LV.ptr.injEq, eq_self, Int.natCast_add, Int.natCast_one, Int.natCast_zero, Int.ofNat_zero])
      · simp only [hw, if_true]
        have e2 : k = xs.length := by omega
        subst e2
        simp only [lastM_len]
        refine EndA_rows [some 0] hcl (by first | exact Or.inr rfl | exact Or.inl rfl) (by simp only [Try.results57, resA, aresL, go_sem, reduceIte, reduceCtorEq, Nat.reduceAdd, Nat.reduceMul, Nat.reduceSub, Nat.reduceLeDiff, Nat.lt_irrefl, Nat.reduceEqDiff, Nat.reduceBEq, Int.reduceLE, Int.reduceLT, Int.reduceToNat, w64, eq_self] <;> rfl) (by decide) ?_ ?_ ⟨rfl, rfl⟩
        rotate_left
        · repeat' (first | exact trivial | apply TdT.tup | apply TdT.one | apply TdL.agg | apply TdL.cell | exact TdB.old _ trivial rfl | exact TdB.own 0 0 _ _ _ _ rfl _ rfl rfl | exact TdB.junk _ | exact TdB.old _ (by assumption) (by assumption) | refine And.intro ?_ ?_)
        all_goals (repeat' (first | (with_reducible exact RowOk.none) | ((with_reducible apply RowOk.eq); (exact rfl); rotate_left; (first | (with_reducible exact scal_int _ _) | (with_reducible exact scal_flt _ _) | (with_reducible exact scal_bool _) | (simp [LV.isCell, bnd]; done))) | exact trivial | refine And.intro ?_ ?_))
        all_goals (try rfl)
theorem sLeastOfWindow_c (lv : LV) (xs : List Int) (l : Int) (H : Hp) (h : RdL H lv (xs.map (LV.int .i64))) (hn : xs.length ≤ 1048576) :
    FunH Try.prog 61 [lv, .int .i64 l] H fun r H' => r = .tup [.sl H.length 0 0 (wRes min xs l).length none, .bool (wOk xs l)] ∧ H' = H ++ [⟨0, false, 2, 1, (wRes min xs l).map (LV.int .i64)⟩] := by
  unfold wRes
  (refine FunH_body tyOk Try.func61 rfl (by kernel_rfl) Try.ntmps61 (fun hcl hbd => ?_); simp only [List.length_cons, List.length_nil, Nat.reduceAdd, Nat.reduceSub, List.replicate, List.cons_append, List.nil_append])
  repeat' (first
    | ((with_reducible refine hK _ _ ?_); clear hK K)
    | (with_reducible refine AW_seq (fun K hK => ?_))
    | (with_reducible refine AW_region tyOk ?_)
    | ((with_reducible refine AOps_cons (fun K hK => ?_)); simp (disch := first | omega | assumption | rfl | (exact liveO_setS (by assumption)) | (simp only [go_sem]; first | done | omega)) only [go_sem, reduceIte, reduceCtorEq, Nat.reduceAdd, Nat.reduceMul, Nat.reduceSub, Nat.reduceLeDiff, Nat.lt_irrefl, Nat.reduceEqDiff, Nat.reduceBEq, Int.reduceLE, Int.reduceLT, Int.reduceToNat, w64, eq_self, h.lenm])
    | ((with_reducible refine AOps_nil ?_); try simp only [thenA, blockA, if_true, if_false, reduceIte])
    | (with_reducible refine AW_block ?_)
    | ((with_reducible refine AW_ret ?_); try simp only [thenA, blockA])
    | ((with_reducible refine AW_skip ?_); try simp only [thenA, blockA])
    | ((with_reducible refine AW_exit ?_); try simp only [thenA, blockA, if_true, if_false, reduceIte, Nat.reduceEqDiff, reduceCtorEq])
    | (refine AW_cond rfl (fun hg => ?_) (fun hg => ?_) <;> first | (exfalso; simp only [reduceCtorEq] at hg; done) | ((try simp only [Bool.not_eq_true', Bool.not_eq_false', decide_eq_true_eq, decide_eq_false_iff_not] at hg); try (exfalso; omega)))
    | (refine And.intro (fun hg => ?_) (fun hg => ?_) <;> (try simp only [Bool.not_eq_true', Bool.not_eq_false'] at hg) <;> simp only [hg] <;> (try simp only [decide_eq_true_eq, decide_eq_false_iff_not] at hg))
    | ((first | (refine FunH.mono (l06List_c _ _ _ _ (by first | assumption | omega | rfl | exact RdL.app (by assumption) _ | exact RdL_h0 rfl (by simp) | exact RdL_hj rfl (by simp) | exact (hp_get0 _ _).trans rfl | exact (hp_getj _ _ _).trans rfl | exact RdL_nil | exact RdL_emp | (simp; done) | (simp; omega)) (by first | assumption | omega | rfl | exact RdL.app (by assumption) _ | exact RdL_h0 rfl (by simp) | exact RdL_hj rfl (by simp) | exact (hp_get0 _ _).trans rfl | exact (hp_getj _ _ _).trans rfl | exact RdL_nil | exact RdL_emp | (simp; done) | (simp; omega))) ?_) | (refine FunH.mono (l06Last_c _ _ _ _ _ (by first | assumption | omega | rfl | exact RdL.app (by assumption) _ | exact RdL_h0 rfl (by simp) | exact RdL_hj rfl (by simp) | exact (hp_get0 _ _).trans rfl | exact (hp_getj _ _ _).trans rfl | exact RdL_nil | exact RdL_emp | (simp; done) | (simp; omega)) (by first | assumption | omega | rfl | exact RdL.app (by assumption) _ | exact RdL_h0 rfl (by simp) | exact RdL_hj rfl (by simp) | exact (hp_get0 _ _).trans rfl | exact (hp_getj _ _ _).trans rfl | exact RdL_nil | exact RdL_emp | (simp; done) | (simp; omega)) (by first | assumption | omega | rfl | exact RdL.app (by assumption) _ | exact RdL_h0 rfl (by simp) | exact RdL_hj rfl (by simp) | exact (hp_get0 _ _).trans rfl | exact (hp_getj _ _ _).trans rfl | exact RdL_nil | exact RdL_emp | (simp; done) | (simp; omega)) (by first | assumption | omega | rfl | exact RdL.app (by assumption) _ | exact RdL_h0 rfl (by simp) | exact RdL_hj rfl (by simp) | exact (hp_get0 _ _).trans rfl | exact (hp_getj _ _ _).trans rfl | exact RdL_nil | exact RdL_emp | (simp; done) | (simp; omega)) (by first | assumption | omega | rfl | exact RdL.app (by assumption) _ | exact RdL_h0 rfl (by simp) | exact RdL_hj rfl (by simp) | exact (hp_get0 _ _).trans rfl | exact (hp_getj _ _ _).trans rfl | exact RdL_nil | exact RdL_emp | (simp; done) | (simp; omega))) ?_) | (refine FunH.mono (l00Min_c _ _ _) ?_)); rintro r H1 ⟨hr1, hr2⟩; replace hr1 := hr1.symm; replace hr2 := hr2.symm; subst hr1; subst hr2; try simp (disch := first | omega | assumption | rfl | (exact liveO_setS (by assumption)) | (simp only [go_sem]; first | done | omega)) only [go_sem, reduceIte, reduceCtorEq, Nat.reduceAdd, Nat.reduceMul, Nat.reduceSub, Nat.reduceLeDiff, Nat.lt_irrefl, Nat.reduceEqDiff, Nat.reduceBEq, Int.reduceLE, Int.reduceLT, Int.reduceToNat, w64, eq_self, h.lenm])
    | (clear hK K)
    | fail)
  · simp only [hg, Bool.false_eq_true, if_false]
    refine EndA_rows0 [none] hcl (by first | exact Or.inr rfl | exact Or.inl rfl) (by simp only [Try.results61, resA, aresL, go_sem, reduceIte, reduceCtorEq, Nat.reduceAdd, Nat.reduceMul, Nat.reduceSub, Nat.reduceLeDiff, Nat.lt_irrefl, Nat.reduceEqDiff, Nat.reduceBEq, Int.reduceLE, Int.reduceLT, Int.reduceToNat, w64, eq_self] <;> rfl) (by decide) ?_ ?_ ⟨rfl, rfl⟩
    rotate_left
    · repeat' (first | exact trivial | apply TdT.tup | apply TdT.one | apply TdL.agg | apply TdL.cell | exact TdB.old _ trivial rfl | exact TdB.virt 0 rfl | exact TdB.junk _ | exact TdB.old _ (by assumption) (by assumption) | refine And.intro ?_ ?_)
    all_goals (repeat' (first | (with_reducible exact RowOk.none) | ((with_reducible apply RowOk.eq); (exact rfl); rotate_left; (first | (with_reducible exact scal_int _ _) | (with_reducible exact scal_flt _ _) | (with_reducible exact scal_bool _) | (simp [LV.isCell, bnd]; done))) | exact trivial | refine And.intro ?_ ?_))
    all_goals (try rfl)
  · have hw := hg
    have hl2 : 1 ≤ l ∧ l ≤ 128 := by unfold wOk at hg; simp [inB] at hg; omega
    refine AW_loopV [6, 7, 8, 9, 10, 16, 17, 18, 19, 20, 21, 22, 23, 24, 25, 26, 27, 28, 29, 30, 31, 32, 33, 34, 35, 36, 37, 38, 39, 40, 41, 42, 43, 44, 45] (fun p : Nat × Nat × Hp => [(6, .sl H.length p.2.1 0 p.1 none), (7, .int .i64 (p.1 : Nat))]) (fun p => H ++ ⟨p.2.1, false, 2, 1, (lastM min xs l p.1).map (LV.int .i64)⟩ :: p.2.2) (fun p => p.1 ≤ xs.length) (fun p => xs.length - p.1) (0, 0, []) (Nat.zero_le _) ?_ rfl ?_
    · simp only [junkAll, setAll, List.foldl_cons, List.foldl_nil, List.set_cons_succ, List.set_cons_zero, JL, true_or, or_true, and_true, true_and, reduceCtorEq, false_or, or_false, LV.int.injEq, LV.bool.injEq, LV.flt.injEq, LV.sl.injEq, LV.ptr.injEq, eq_self, Int.natCast_add, Int.natCast_one, Int.natCast_zero, Int.ofNat_zero]
    · intro ⟨k, ver, G⟩ hk K hK
      simp only at hk
      have hll := lastM_len min xs l k
      simp only [junkAll, setAll, List.foldl_cons, List.foldl_nil, List.set_cons_succ, List.set_cons_zero]
      repeat' (first
        | ((with_reducible refine hK _ _ ?_); clear hK K)
        | (with_reducible refine AW_seq (fun K hK => ?_))
        | (with_reducible refine AW_region tyOk ?_)
        | ((with_reducible refine AOps_cons (fun K hK => ?_)); simp (disch := first | omega | assumption | rfl | (exact liveO_setS (by assumption)) | (simp only [go_sem]; first | done | omega)) only [go_sem, reduceIte, reduceCtorEq, Nat.reduceAdd, Nat.reduceMul, Nat.reduceSub, Nat.reduceLeDiff, Nat.lt_irrefl, Nat.reduceEqDiff, Nat.reduceBEq, Int.reduceLE, Int.reduceLT, Int.reduceToNat, w64, eq_self, h.lenm, h.idxmA, h.ldmA])
        | ((with_reducible refine AOps_nil ?_); try simp only [thenA, blockA, if_true, if_false, reduceIte])
        | (with_reducible refine AW_block ?_)
        | ((with_reducible refine AW_ret ?_); try simp only [thenA, blockA])
        | ((with_reducible refine AW_skip ?_); try simp only [thenA, blockA])
        | ((with_reducible refine AW_exit ?_); try simp only [thenA, blockA, if_true, if_false, reduceIte, Nat.reduceEqDiff, reduceCtorEq])
        | (refine AW_cond rfl (fun hg => ?_) (fun hg => ?_) <;> first | (exfalso; simp only [reduceCtorEq] at hg; done) | ((try simp only [Bool.not_eq_true', Bool.not_eq_false', decide_eq_true_eq, decide_eq_false_iff_not] at hg); try (exfalso; omega)))
        | (refine And.intro (fun hg => ?_) (fun hg => ?_) <;> (try simp only [Bool.not_eq_true', Bool.not_eq_false'] at hg) <;> simp only [hg] <;> (try simp only [decide_eq_true_eq, decide_eq_false_iff_not] at hg))
        | ((first | (refine FunH.mono (l06List_c _ _ _ _ (by first | assumption | omega | rfl | exact RdL.app (by assumption) _ | exact RdL_h0 rfl (by simp) | exact RdL_hj rfl (by simp) | exact (hp_get0 _ _).trans rfl | exact (hp_getj _ _ _).trans rfl | exact RdL_nil | exact RdL_emp | (simp; done) | (simp; omega)) (by first | assumption | omega | rfl | exact RdL.app (by assumption) _ | exact RdL_h0 rfl (by simp) | exact RdL_hj rfl (by simp) | exact (hp_get0 _ _).trans rfl | exact (hp_getj _ _ _).trans rfl | exact RdL_nil | exact RdL_emp | (simp; done) | (simp; omega))) ?_) | (refine FunH.mono (l06Last_c _ _ _ _ _ (by first | assumption | omega | rfl | exact RdL.app (by assumption) _ | exact RdL_h0 rfl (by simp) | exact RdL_hj rfl (by simp) | exact (hp_get0 _ _).trans rfl | exact (hp_getj _ _ _).trans rfl | exact RdL_nil | exact RdL_emp | (simp; done) | (simp; omega)) (by first | assumption | omega | rfl | exact RdL.app (by assumption) _ | exact RdL_h0 rfl (by simp) | exact RdL_hj rfl (by simp) | exact (hp_get0 _ _).trans rfl | exact (hp_getj _ _ _).trans rfl | exact RdL_nil | exact RdL_emp | (simp; done) | (simp; omega)) (by first | assumption | omega | rfl | exact RdL.app (by assumption) _ | exact RdL_h0 rfl (by simp) | exact RdL_hj rfl (by simp) | exact (hp_get0 _ _).trans rfl | exact (hp_getj _ _ _).trans rfl | exact RdL_nil | exact RdL_emp | (simp; done) | (simp; omega)) (by first | assumption | omega | rfl | exact RdL.app (by assumption) _ | exact RdL_h0 rfl (by simp) | exact RdL_hj rfl (by simp) | exact (hp_get0 _ _).trans rfl | exact (hp_getj _ _ _).trans rfl | exact RdL_nil | exact RdL_emp | (simp; done) | (simp; omega)) (by first | assumption | omega | rfl | exact RdL.app (by assumption) _ | exact RdL_h0 rfl (by simp) | exact RdL_hj rfl (by simp) | exact (hp_get0 _ _).trans rfl | exact (hp_getj _ _ _).trans rfl | exact RdL_nil | exact RdL_emp | (simp; done) | (simp; omega))) ?_) | (refine FunH.mono (l00Min_c _ _ _) ?_)); rintro r H1 ⟨hr1, hr2⟩; replace hr1 := hr1.symm; replace hr2 := hr2.symm; subst hr1; subst hr2; try simp (disch := first | omega | assumption | rfl | (exact liveO_setS (by assumption)) | (simp only [go_sem]; first | done | omega)) only [go_sem, reduceIte, reduceCtorEq, Nat.reduceAdd, Nat.reduceMul, Nat.reduceSub, Nat.reduceLeDiff, Nat.lt_irrefl, Nat.reduceEqDiff, Nat.reduceBEq, Int.reduceLE, Int.reduceLT, Int.reduceToNat, w64, eq_self, h.lenm, h.idxmA, h.ldmA])
        | (clear hK K)
        | fail)
      · have hfl := fromW_le k l hl2.1
        have hs := (h.app (⟨ver, false, 2, 1, (lastM min xs l k).map (LV.int .i64)⟩ :: G)).subm (l := fromW k l) (m := k + 1 - fromW k l) (by omega) (by omega)
        have hln := lastL_len xs l k (by omega)
        change RdL _ _ ((lastL xs l k).map (LV.int .i64)) at hs
        refine AW_loopV [8, 10, 30, 31, 32, 33, 34, 35, 36, 37, 38, 39, 40, 41] (fun j : Nat => [(8, .int .i64 (((lastL xs l k).take j).foldl min (ix xs k))), (10, .int .i64 (j : Nat))]) (fun _ => H ++ ⟨ver, false, 2, 1, (lastM min xs l k).map (LV.int .i64)⟩ :: G) (fun j => j ≤ (lastL xs l k).length) (fun j => (lastL xs l k).length - j) 0 (Nat.zero_le _) ?_ rfl ?_
        · simp only [junkAll, setAll, List.foldl_cons, List.foldl_nil, List.set_cons_succ, List.set_cons_zero, JL, true_or, or_true, and_true, true_and, reduceCtorEq, false_or, or_false, LV.int.injEq, LV.bool.injEq, LV.flt.injEq, LV.sl.injEq, LV.ptr.injEq, eq_self, Int.natCast_add, Int.natCast_one, Int.natCast_zero, Int.ofNat_zero]; simp
        · intro j hj K hK
          simp only [junkAll, setAll, List.foldl_cons, List.foldl_nil, List.set_cons_succ, List.set_cons_zero]
          repeat' (first
            | ((with_reducible refine hK _ _ ?_); clear hK K)
            | (with_reducible refine AW_seq (fun K hK => ?_))
            | (with_reducible refine AW_region tyOk ?_)
            | ((with_reducible refine AOps_cons (fun K hK => ?_)); simp (disch := first | omega | assumption | rfl | (exact liveO_setS (by assumption)) | (simp only [go_sem]; first | done | omega)) only [go_sem, reduceIte, reduceCtorEq, Nat.reduceAdd, Nat.reduceMul, Nat.reduceSub, Nat.reduceLeDiff, Nat.lt_irrefl, Nat.reduceEqDiff, Nat.reduceBEq, Int.reduceLE, Int.reduceLT, Int.reduceToNat, w64, eq_self, hs.lenm, hs.idxm, hs.ldm])
            | ((with_reducible refine AOps_nil ?_); try simp only [thenA, blockA, if_true, if_false, reduceIte])
            | (with_reducible refine AW_block ?_)
            | ((with_reducible refine AW_ret ?_); try simp only [thenA, blockA])
            | ((with_reducible refine AW_skip ?_); try simp only [thenA, blockA])
            | ((with_reducible refine AW_exit ?_); try simp only [thenA, blockA, if_true, if_false, reduceIte, Nat.reduceEqDiff, reduceCtorEq])
            | (refine AW_cond rfl (fun hg => ?_) (fun hg => ?_) <;> first | (exfalso; simp only [reduceCtorEq] at hg; done) | ((try simp only [Bool.not_eq_true', Bool.not_eq_false', decide_eq_true_eq, decide_eq_false_iff_not] at hg); try (exfalso; omega)))
            | (refine And.intro (fun hg => ?_) (fun hg => ?_) <;> (try simp only [Bool.not_eq_true', Bool.not_eq_false'] at hg) <;> simp only [hg] <;> (try simp only [decide_eq_true_eq, decide_eq_false_iff_not] at hg))
            | ((first | (refine FunH.mono (l06List_c _ _ _ _ (by first | assumption | omega | rfl | exact RdL.app (by assumption) _ | exact RdL_h0 rfl (by simp) | exact RdL_hj rfl (by simp) | exact (hp_get0 _ _).trans rfl | exact (hp_getj _ _ _).trans rfl | exact RdL_nil | exact RdL_emp | (simp; done) | (simp; omega)) (by first | assumption | omega | rfl | exact RdL.app (by assumption) _ | exact RdL_h0 rfl (by simp) | exact RdL_hj rfl (by simp) | exact (hp_get0 _ _).trans rfl | exact (hp_getj _ _ _).trans rfl | exact RdL_nil | exact RdL_emp | (simp; done) | (simp; omega))) ?_) | (refine FunH.mono (l06Last_c _ _ _ _ _ (by first | assumption | omega | rfl | exact RdL.app (by assumption) _ | exact RdL_h0 rfl (by simp) | exact RdL_hj rfl (by simp) | exact (hp_get0 _ _).trans rfl | exact (hp_getj _ _ _).trans rfl | exact RdL_nil | exact RdL_emp | (simp; done) | (simp; omega)) (by first | assumption | omega | rfl | exact RdL.app (by assumption) _ | exact RdL_h0 rfl (by simp) | exact RdL_hj rfl (by simp) | exact (hp_get0 _ _).trans rfl | exact (hp_getj _ _ _).trans rfl | exact RdL_nil | exact RdL_emp | (simp; done) | (simp; omega)) (by first | assumption | omega | rfl | exact RdL.app (by assumption) _ | exact RdL_h0 rfl (by simp) | exact RdL_hj rfl (by simp) | exact (hp_get0 _ _).trans rfl | exact (hp_getj _ _ _).trans rfl | exact RdL_nil | exact RdL_emp | (simp; done) | (simp; omega)) (by first | assumption | omega | rfl | exact RdL.app (by assumption) _ | exact RdL_h0 rfl (by simp) | exact RdL_hj rfl (by simp) | exact (hp_get0 _ _).trans rfl | exact (hp_getj _ _ _).trans rfl | exact RdL_nil | exact RdL_emp | (simp; done) | (simp; omega)) (by first | assumption | omega | rfl | exact RdL.app (by assumption) _ | exact RdL_h0 rfl (by simp) | exact RdL_hj rfl (by simp) | exact (hp_get0 _ _).trans rfl | exact (hp_getj _ _ _).trans rfl | exact RdL_nil | exact RdL_emp | (simp; done) | (simp; omega))) ?_) | (refine FunH.mono (l00Min_c _ _ _) ?_)); rintro r H1 ⟨hr1, hr2⟩; replace hr1 := hr1.symm; replace hr2 := hr2.symm; subst hr1; subst hr2; try simp (disch := first | omega | assumption | rfl | (exact liveO_setS (by assumption)) | (simp only [go_sem]; first | done | omega)) only [go_sem, reduceIte, reduceCtorEq, Nat.reduceAdd, Nat.reduceMul, Nat.reduceSub, Nat.reduceLeDiff, Nat.lt_irrefl, Nat.reduceEqDiff, Nat.reduceBEq, Int.reduceLE, Int.reduceLT, Int.reduceToNat, w64, eq_self, hs.lenm, hs.idxm, hs.ldm])
            | (clear hK K)
            | fail)
          · refine hK _ _ (j + 1) (by (try simp only); omega) (by (try simp only); omega) ?j3 ?h3
            case h3 => (rfl)
            case j3 => (simp only [junkAll, setAll, List.foldl_cons, List.foldl_nil, List.set_cons_succ, List.set_cons_zero, JL, true_or, or_true, and_true, true_and, reduceCtorEq, false_or, or_false, LV.int.injEq, LV.bool.injEq, LV.flt.injEq, LV.sl.injEq, LV.ptr.injEq, eq_self, Int.natCast_add, Int.natCast_one, Int.natCast_zero, Int.ofNat_zero]; rw [take_ix _ j (by omega), List.foldl_append]; rfl)
          · have ej : j = (lastL xs l k).length := by omega
            have em : ix xs k ∈ lastL xs l k := by
              have e0 : ix (lastL xs l k) (k - fromW k l) = ix xs k := by
                rw [ix_eq _ _ (by omega), ix_eq _ _ (by omega)]
                simp only [lastL, List.getElem_take, List.getElem_drop]
                congr 1; omega
              rw [← e0]; exact ix_mem _ _ (by omega)
            refine hK _ _ (k + 1, ver + 1, ?G4) (by (try simp only); omega) (by (try simp only); omega) ?j4 ?h4
            case h4 => (rw [lastM_succ, List.map_append, ej, List.take_length, foldM_min _ _ em]; rfl)
            case j4 => (simp only [junkAll, setAll, List.foldl_cons, List.foldl_nil, List.set_cons_succ, List.set_cons_zero, JL, true_or, or_true, and_true, true_and, reduceCtorEq, false_or, or_false, LV.int.injEq, LV.bool.injEq, LV.flt.injEq, LV.sl.injEq, LV.ptr.injEq, eq_self, Int.natCast_add, Int.natCast_one, Int.natCast_zero, Int.ofNat_zero])
      · simp only [hw, if_true]
        have e2 : k = xs.length := by omega
        subst e2
        simp only [lastM_len]
        refine EndA_rows [some 0] hcl (by first | exact Or.inr rfl | exact Or.inl rfl) (by simp only [Try.results61, resA, aresL, go_sem, reduceIte, reduceCtorEq, Nat.reduceAdd, Nat.reduceMul, Nat.reduceSub, Nat.reduceLeDiff, Nat.lt_irrefl, Nat.reduceEqDiff, Nat.reduceBEq, Int.reduceLE, Int.reduceLT, Int.reduceToNat, w64, eq_self] <;> rfl) (by decide) ?_ ?_ ⟨rfl, rfl⟩
        rotate_left
        · repeat' (first | exact trivial | apply TdT.tup | apply TdT.one | apply TdL.agg | apply TdL.cell | exact TdB.old _ trivial rfl | exact TdB.own 0 0 _ _ _ _ rfl _ rfl rfl | exact TdB.junk _ | exact TdB.old _ (by assumption) (by assumption) | refine And.intro ?_ ?_)
        all_goals (repeat' (first | (with_reducible exact RowOk.none) | ((with_reducible apply RowOk.eq); (exact rfl); rotate_left; (first | (with_reducible exact scal_int _ _) | (with_reducible exact scal_flt _ _) | (with_reducible exact scal_bool _) | (simp [LV.isCell, bnd]; done))) | exact trivial | refine And.intro ?_ ?_))
        all_goals (try rfl)
end Go.Proofs.Ytajekmpjebhaoaa
