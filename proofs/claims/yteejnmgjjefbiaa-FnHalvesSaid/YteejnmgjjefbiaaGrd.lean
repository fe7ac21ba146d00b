/- Stable sorting of elements of two cells: rotation, in the abstract machine. -/
import Derived.Test.YteejnmgjjefbiaaGrb
namespace Go.Proofs.Yteejnmgjjefbiaa
open Go.RowKit
set_option linter.unusedSimpArgs false
set_option linter.unusedVariables false
set_option linter.unusedSectionVars false
set_option maxRecDepth 100000

set_option maxHeartbeats 2000000 in
theorem rotateW_c {α : Type} [Inhabited α] {F : α → List LV} {cf : α → α → Int} {key : α → Int} {g : FuncId} {caps : List LV} (hc : CmpW F cf key g caps) (id ver el n a m b : Nat) (P X Y R : List α) (H : Hp) (h : H[id]? = some ⟨ver, false, el, 2, fl F (P ++ X ++ Y ++ R)⟩) (hn : P.length + X.length + Y.length + R.length = n) (ha : P.length = a) (hb : P.length + X.length = m) (hb2 : P.length + X.length + Y.length = b) (hx0 : 0 < X.length) (hy0 : 0 < Y.length) (hm : n ≤ 1048576) :
    FunH Try.prog 53 [.sl id ver 0 n none, .int .i64 (a : Nat), .int .i64 (m : Nat), .int .i64 (b : Nat), .fn g caps] H fun r H' => r = .tup [] ∧ H' = H.set id ⟨ver, false, el, 2, fl F (P ++ Y ++ X ++ R)⟩ := by
  have hid := lt_of_get h
  (refine FunH_body tyOk Try.func53 rfl (by kernel_rfl) Try.ntmps53 (fun hcl hbd => ?_); simp only [List.length_cons, List.length_nil, Nat.reduceAdd, Nat.reduceSub, List.replicate, List.cons_append, List.nil_append])
  repeat' (first
    | ((with_reducible refine hK _ _ ?_); clear hK K)
    | ((first | (with_reducible show AOp _ _ _ _ _ _ _)); simp (disch := first | ((with_reducible show liveO _ _ _ = true); first | assumption | (exact liveO_setS (by assumption)) | (exact PtL.live (by assumption)) | (exact PtL.liveA (by assumption) _) | (simp only [go_sem]; done)) | omega | assumption | rfl | (simp only [go_sem]; first | done | omega)) only [go_sem, reduceIte, reduceCtorEq, Nat.reduceAdd, Nat.reduceMul, Nat.reduceSub, Nat.reduceLeDiff, Nat.lt_irrefl, Nat.reduceLT, Nat.reduceEqDiff, Nat.reduceBEq, Int.reduceLE, Int.reduceLT, Int.reduceToNat, w64, eq_self])
    | (with_reducible refine AW_seq (fun K hK => ?_))
    | (with_reducible refine AW_region tyOk ?_)
    | (with_reducible refine AOps_cons (fun K hK => ?_))
    | ((with_reducible refine AOps_nil ?_); try simp only [thenA, blockA, if_true, if_false, reduceIte, Nat.reduceEqDiff, reduceCtorEq])
    | (with_reducible refine AW_block ?_)
    | ((first | (with_reducible refine AW_ret ?_) | (with_reducible refine AW_skip ?_) | (with_reducible refine AW_exit ?_)); try simp only [thenA, blockA, if_true, if_false, reduceIte, Nat.reduceEqDiff, reduceCtorEq])
    | ((with_reducible show AW _ _ (.cond _ _ _) _ _ _); refine AW_cond rfl (fun hg => ?_) (fun hg => ?_) <;> first | (exfalso; simp only [reduceCtorEq] at hg; done) | ((try simp only [Bool.not_eq_true', Bool.not_eq_false', decide_eq_true_eq, decide_eq_false_iff_not] at hg); try (exfalso; omega)))
    | ((with_reducible show _ ∧ _); refine And.intro (fun hg => ?_) (fun hg => ?_) <;> (try simp only [Bool.not_eq_true', Bool.not_eq_false'] at hg) <;> simp only [hg] <;> (try simp only [decide_eq_true_eq, decide_eq_false_iff_not] at hg) <;> (try (exfalso; omega)))
    | (clear hK K)
    | fail)
  refine AW_loopV [10, 11, 18, 19, 20, 21, 22, 23, 24, 25, 26, 27, 28, 29, 30, 31, 32, 33, 34, 35, 36, 37, 38, 39, 40, 41, 42, 43, 44, 45, 46, 47, 48, 49] (fun q : List α × List α × List α × List α => [(10, .int .i64 (q.2.1.length : Nat)), (11, .int .i64 (q.2.2.1.length : Nat))]) (fun q => H.set id ⟨ver, false, el, 2, fl F (q.1 ++ q.2.1 ++ q.2.2.1 ++ q.2.2.2)⟩)
    (fun q => q.1.length + q.2.1.length = m ∧ q.1.length + q.2.1.length + q.2.2.1.length + q.2.2.2.length = n ∧ 0 < q.2.1.length ∧ 0 < q.2.2.1.length ∧ q.1 ++ q.2.2.1 ++ q.2.1 ++ q.2.2.2 = P ++ Y ++ X ++ R) (fun q => q.2.1.length + q.2.2.1.length) (P, X, Y, R) ⟨by simp only; omega, by simp only; omega, hx0, hy0, rfl⟩ ?_ ?_ ?_
  · simp only [junkAll, setAll, List.foldl_cons, List.foldl_nil, List.set_cons_succ, List.set_cons_zero, JL, true_or, or_true, and_true, true_and, reduceCtorEq, false_or, or_false, LV.int.injEq, LV.bool.injEq, LV.flt.injEq, LV.sl.injEq, LV.ptr.injEq, eq_self, Int.natCast_add, Int.natCast_one, Int.natCast_zero, Int.ofNat_zero]; exact ⟨by omega, by omega⟩
  · exact (set_self h).symm
  · intro ⟨P', X', Y', R'⟩ ⟨q1, q2, q3, q4, q5⟩ K hK
    simp only at q1 q2 q3 q4 q5
    have hid2 : id < (H.set id ⟨ver, false, el, 2, fl F (P' ++ X' ++ Y' ++ R')⟩).length := by simpa using hid
    simp only [junkAll, setAll, List.foldl_cons, List.foldl_nil, List.set_cons_succ, List.set_cons_zero]
    obtain ⟨A, hA⟩ : ∃ A, P' ++ X' ++ Y' ++ R' = A := ⟨_, rfl⟩
    rw [hA]
    by_cases hne : X'.length = Y'.length
    · obtain ⟨B, hB⟩ : ∃ B, P' ++ Y' ++ [] ++ X' ++ R' = B := ⟨_, rfl⟩
      have hcon := (swapRangeW_c hc id ver el n (m - X'.length) m X'.length P' X' [] Y' R' (H.set id ⟨ver, false, el, 2, fl F A⟩) (by rw [← hA]; simp [hid]) (by simp; omega) (by omega) (by simp; omega) rfl hne.symm hm).mono (Q' := fun r H' => r = .tup [] ∧ H' = H.set id ⟨ver, false, el, 2, fl F B⟩) fun r H' hh => ⟨hh.1, by rw [hh.2, List.set_set, hB]⟩
      have e1 : (m : Int) - (X'.length : Nat) = ((m - X'.length : Nat) : Int) := by omega
      have hb1 : (((X'.length : Nat) : Int) != ((Y'.length : Nat) : Int)) = false := by rw [hne]; simp
      repeat' (first
        | ((with_reducible refine hK _ _ ?_); clear hK K)
        | ((first | (with_reducible show AOp _ _ _ _ _ _ _)); simp (disch := first | ((with_reducible show liveO _ _ _ = true); first | assumption | (exact liveO_setS (by assumption)) | (exact PtL.live (by assumption)) | (exact PtL.liveA (by assumption) _) | (simp only [go_sem]; done)) | omega | assumption | rfl | (simp only [go_sem]; first | done | omega)) only [go_sem, reduceIte, reduceCtorEq, Nat.reduceAdd, Nat.reduceMul, Nat.reduceSub, Nat.reduceLeDiff, Nat.lt_irrefl, Nat.reduceLT, Nat.reduceEqDiff, Nat.reduceBEq, Int.reduceLE, Int.reduceLT, Int.reduceToNat, w64, eq_self, e1, hb1])
        | (with_reducible refine AW_seq (fun K hK => ?_))
        | (with_reducible refine AW_region tyOk ?_)
        | (with_reducible refine AOps_cons (fun K hK => ?_))
        | ((with_reducible refine AOps_nil ?_); try simp only [thenA, blockA, if_true, if_false, reduceIte, Nat.reduceEqDiff, reduceCtorEq])
        | (with_reducible refine AW_block ?_)
        | ((first | (with_reducible refine AW_ret ?_) | (with_reducible refine AW_skip ?_) | (with_reducible refine AW_exit ?_)); try simp only [thenA, blockA, if_true, if_false, reduceIte, Nat.reduceEqDiff, reduceCtorEq])
        | ((with_reducible show AW _ _ (.cond _ _ _) _ _ _); refine AW_cond rfl (fun hg => ?_) (fun hg => ?_) <;> first | (exfalso; simp only [reduceCtorEq] at hg; done) | ((try simp only [Bool.not_eq_true', Bool.not_eq_false', decide_eq_true_eq, decide_eq_false_iff_not] at hg); try (exfalso; omega)))
        | ((with_reducible show _ ∧ _); refine And.intro (fun hg => ?_) (fun hg => ?_) <;> (try simp only [Bool.not_eq_true', Bool.not_eq_false'] at hg) <;> simp only [hg] <;> (try simp only [decide_eq_true_eq, decide_eq_false_iff_not] at hg) <;> (try (exfalso; omega)))
        | ((with_reducible apply FunH_intro); (first | exact hcon))
        | (clear hK K)
        | fail)
      all_goals (first | refine EndA_cut hcl (by first | exact Or.inr rfl | exact Or.inl rfl) (by simp only [Try.results53, resA, aresL, go_sem, reduceIte, reduceCtorEq, Nat.reduceAdd, Nat.reduceMul, Nat.reduceSub, Nat.reduceLeDiff, Nat.lt_irrefl, Nat.reduceLT, Nat.reduceEqDiff, Nat.reduceBEq, Int.reduceLE, Int.reduceLT, Int.reduceToNat, w64, eq_self] <;> rfl) rfl ?_ | refine EndA_same (by first | exact Or.inr rfl | exact Or.inl rfl) (by simp only [Try.results53, resA, aresL, go_sem, reduceIte, reduceCtorEq, Nat.reduceAdd, Nat.reduceMul, Nat.reduceSub, Nat.reduceLeDiff, Nat.lt_irrefl, Nat.reduceLT, Nat.reduceEqDiff, Nat.reduceBEq, Int.reduceLE, Int.reduceLT, Int.reduceToNat, w64, eq_self] <;> rfl) ?_)
      refine ⟨rfl, ?_⟩
      have q6 : P ++ (Y ++ (X ++ R)) = P' ++ Y' ++ [] ++ X' ++ R' := by simp only [List.append_assoc, List.nil_append] at q5 ⊢; exact q5.symm
      have q7 : P ++ Y ++ X ++ R = P' ++ Y' ++ [] ++ X' ++ R' := by simp only [List.append_assoc] at q6 ⊢; exact q6
      first | rw [← hB, q6] | rw [← hB, q7]
    · by_cases hgt : X'.length > Y'.length
      · obtain ⟨X1, X2, hX, hX1⟩ : ∃ X1 X2, X' = X1 ++ X2 ∧ X1.length = Y'.length := ⟨X'.take Y'.length, X'.drop Y'.length, (List.take_append_drop _ _).symm, by simp; omega⟩
        have hXl : X'.length = X1.length + X2.length := by rw [hX, List.length_append]
        obtain ⟨B, hB⟩ : ∃ B, P' ++ Y' ++ X2 ++ X1 ++ R' = B := ⟨_, rfl⟩
        have hcon := (swapRangeW_c hc id ver el n (m - X'.length) m Y'.length P' X1 X2 Y' R' (H.set id ⟨ver, false, el, 2, fl F A⟩) (by rw [← hA, hX]; simp [hid]) (by omega) (by omega) (by omega) hX1 rfl hm).mono (Q' := fun r H' => r = .tup [] ∧ H' = H.set id ⟨ver, false, el, 2, fl F B⟩) fun r H' hh => ⟨hh.1, by rw [hh.2, List.set_set, hB]⟩
        have e1 : (m : Int) - (X'.length : Nat) = ((m - X'.length : Nat) : Int) := by omega
        have hb1 : (((X'.length : Nat) : Int) != ((Y'.length : Nat) : Int)) = true := by simp only [bne_iff_ne, ne_eq]; omega
        repeat' (first
          | ((with_reducible refine hK _ _ ?_); clear hK K)
          | ((first | (with_reducible show AOp _ _ _ _ _ _ _)); simp (disch := first | ((with_reducible show liveO _ _ _ = true); first | assumption | (exact liveO_setS (by assumption)) | (exact PtL.live (by assumption)) | (exact PtL.liveA (by assumption) _) | (simp only [go_sem]; done)) | omega | assumption | rfl | (simp only [go_sem]; first | done | omega)) only [go_sem, reduceIte, reduceCtorEq, Nat.reduceAdd, Nat.reduceMul, Nat.reduceSub, Nat.reduceLeDiff, Nat.lt_irrefl, Nat.reduceLT, Nat.reduceEqDiff, Nat.reduceBEq, Int.reduceLE, Int.reduceLT, Int.reduceToNat, w64, eq_self, e1, hb1])
          | (with_reducible refine AW_seq (fun K hK => ?_))
          | (with_reducible refine AW_region tyOk ?_)
          | (with_reducible refine AOps_cons (fun K hK => ?_))
          | ((with_reducible refine AOps_nil ?_); try simp only [thenA, blockA, if_true, if_false, reduceIte, Nat.reduceEqDiff, reduceCtorEq])
          | (with_reducible refine AW_block ?_)
          | ((first | (with_reducible refine AW_ret ?_) | (with_reducible refine AW_skip ?_) | (with_reducible refine AW_exit ?_)); try simp only [thenA, blockA, if_true, if_false, reduceIte, Nat.reduceEqDiff, reduceCtorEq])
          | ((with_reducible show AW _ _ (.cond _ _ _) _ _ _); refine AW_cond rfl (fun hg => ?_) (fun hg => ?_) <;> first | (exfalso; simp only [reduceCtorEq] at hg; done) | ((try simp only [Bool.not_eq_true', Bool.not_eq_false', decide_eq_true_eq, decide_eq_false_iff_not] at hg); try (exfalso; omega)))
          | ((with_reducible show _ ∧ _); refine And.intro (fun hg => ?_) (fun hg => ?_) <;> (try simp only [Bool.not_eq_true', Bool.not_eq_false'] at hg) <;> simp only [hg] <;> (try simp only [decide_eq_true_eq, decide_eq_false_iff_not] at hg) <;> (try (exfalso; omega)))
          | ((with_reducible apply FunH_intro); (first | exact hcon))
          | (clear hK K)
          | fail)
        refine hK _ _ (P' ++ Y', X2, X1, R') ⟨by simp only [List.length_append]; omega, by simp only [List.length_append]; omega, by simp only; omega, by simp only; omega, by simp only; rw [← q5, hX]; simp⟩ (by simp only; omega) ?_ ?_
        · simp only [junkAll, setAll, List.foldl_cons, List.foldl_nil, List.set_cons_succ, List.set_cons_zero, JL, true_or, or_true, and_true, true_and, reduceCtorEq, false_or, or_false, LV.int.injEq, LV.bool.injEq, LV.flt.injEq, LV.sl.injEq, LV.ptr.injEq, eq_self, Int.natCast_add, Int.natCast_one, Int.natCast_zero, Int.ofNat_zero]; omega
        · simp only; rw [hB]
      · obtain ⟨Y1, Y2, hY, hY2⟩ : ∃ Y1 Y2, Y' = Y1 ++ Y2 ∧ Y2.length = X'.length := ⟨Y'.take (Y'.length - X'.length), Y'.drop (Y'.length - X'.length), (List.take_append_drop _ _).symm, by simp; omega⟩
        have hYl : Y'.length = Y1.length + Y2.length := by rw [hY, List.length_append]
        obtain ⟨B, hB⟩ : ∃ B, P' ++ Y2 ++ Y1 ++ X' ++ R' = B := ⟨_, rfl⟩
        have hcon := (swapRangeW_c hc id ver el n (m - X'.length) (m + Y'.length - X'.length) X'.length P' X' Y1 Y2 R' (H.set id ⟨ver, false, el, 2, fl F A⟩) (by rw [← hA, hY]; simp [hid]) (by omega) (by omega) (by omega) rfl hY2 hm).mono (Q' := fun r H' => r = .tup [] ∧ H' = H.set id ⟨ver, false, el, 2, fl F B⟩) fun r H' hh => ⟨hh.1, by rw [hh.2, List.set_set, hB]⟩
        have e1 : (m : Int) - (X'.length : Nat) = ((m - X'.length : Nat) : Int) := by omega
        have e2 : (m : Int) + (Y'.length : Nat) - (X'.length : Nat) = ((m + Y'.length - X'.length : Nat) : Int) := by omega
        have hb1 : (((X'.length : Nat) : Int) != ((Y'.length : Nat) : Int)) = true := by simp only [bne_iff_ne, ne_eq]; omega
        repeat' (first
          | ((with_reducible refine hK _ _ ?_); clear hK K)
          | ((first | (with_reducible show AOp _ _ _ _ _ _ _)); simp (disch := first | ((with_reducible show liveO _ _ _ = true); first | assumption | (exact liveO_setS (by assumption)) | (exact PtL.live (by assumption)) | (exact PtL.liveA (by assumption) _) | (simp only [go_sem]; done)) | omega | assumption | rfl | (simp only [go_sem]; first | done | omega)) only [go_sem, reduceIte, reduceCtorEq, Nat.reduceAdd, Nat.reduceMul, Nat.reduceSub, Nat.reduceLeDiff, Nat.lt_irrefl, Nat.reduceLT, Nat.reduceEqDiff, Nat.reduceBEq, Int.reduceLE, Int.reduceLT, Int.reduceToNat, w64, eq_self, e1, e2, hb1])
          | (with_reducible refine AW_seq (fun K hK => ?_))
          | (with_reducible refine AW_region tyOk ?_)
          | (with_reducible refine AOps_cons (fun K hK => ?_))
          | ((with_reducible refine AOps_nil ?_); try simp only [thenA, blockA, if_true, if_false, reduceIte, Nat.reduceEqDiff, reduceCtorEq])
          | (with_reducible refine AW_block ?_)
          | ((first | (with_reducible refine AW_ret ?_) | (with_reducible refine AW_skip ?_) | (with_reducible refine AW_exit ?_)); try simp only [thenA, blockA, if_true, if_false, reduceIte, Nat.reduceEqDiff, reduceCtorEq])
          | ((with_reducible show AW _ _ (.cond _ _ _) _ _ _); refine AW_cond rfl (fun hg => ?_) (fun hg => ?_) <;> first | (exfalso; simp only [reduceCtorEq] at hg; done) | ((try simp only [Bool.not_eq_true', Bool.not_eq_false', decide_eq_true_eq, decide_eq_false_iff_not] at hg); try (exfalso; omega)))
          | ((with_reducible show _ ∧ _); refine And.intro (fun hg => ?_) (fun hg => ?_) <;> (try simp only [Bool.not_eq_true', Bool.not_eq_false'] at hg) <;> simp only [hg] <;> (try simp only [decide_eq_true_eq, decide_eq_false_iff_not] at hg) <;> (try (exfalso; omega)))
          | ((with_reducible apply FunH_intro); (first | exact hcon))
          | (clear hK K)
          | fail)
        refine hK _ _ (P', Y2, Y1, X' ++ R') ⟨by simp only; omega, by simp only [List.length_append]; omega, by simp only; omega, by simp only; omega, by simp only; rw [← q5, hY]; simp⟩ (by simp only; omega) ?_ ?_
        · simp only [junkAll, setAll, List.foldl_cons, List.foldl_nil, List.set_cons_succ, List.set_cons_zero, JL, true_or, or_true, and_true, true_and, reduceCtorEq, false_or, or_false, LV.int.injEq, LV.bool.injEq, LV.flt.injEq, LV.sl.injEq, LV.ptr.injEq, eq_self, Int.natCast_add, Int.natCast_one, Int.natCast_zero, Int.ofNat_zero]; omega
        · simp only; rw [← hB]; simp
end Go.Proofs.Yteejnmgjjefbiaa
