/- Stable sorting of elements of two cells: swapping ranges. -/
import Derived.Test.YteejnmgjjefbiaaGo
namespace Go.Proofs.Yteejnmgjjefbiaa
open Go.RowKit
set_option linter.unusedSimpArgs false
set_option linter.unusedVariables false
set_option linter.unusedSectionVars false
set_option maxRecDepth 100000

set_option maxHeartbeats 2000000 in
theorem swapRangeW_c {α : Type} [Inhabited α] {F : α → List LV} {cf : α → α → Int} {key : α → Int} {g : FuncId} {caps : List LV} (hc : CmpW F cf key g caps) (id ver el n a b m : Nat) (P U M V R : List α) (H : Hp) (h : H[id]? = some ⟨ver, false, el, 2, fl F (P ++ U ++ M ++ V ++ R)⟩) (hn : P.length + U.length + M.length + V.length + R.length = n) (ha : P.length = a) (hb : P.length + U.length + M.length = b) (hu : U.length = m) (hv : V.length = m) (hm : n ≤ 1048576) :
    FunH Try.prog 57 [.sl id ver 0 n none, .int .i64 (a : Nat), .int .i64 (b : Nat), .int .i64 (m : Nat), .fn g caps] H fun r H' => r = .tup [] ∧ H' = H.set id ⟨ver, false, el, 2, fl F (P ++ V ++ M ++ U ++ R)⟩ := by
  have hid := lt_of_get h
  (refine FunH_body tyOk Try.func57 rfl (by kernel_rfl) Try.ntmps57 (fun hcl hbd => ?_); simp only [List.length_cons, List.length_nil, Nat.reduceAdd, Nat.reduceSub, List.replicate, List.cons_append, List.nil_append])
  repeat' (first
    | ((with_reducible refine hK _ _ ?_); clear hK K)
    | ((first | (with_reducible show AOp _ _ _ _ _ _ _)); simp (disch := first | ((with_reducible show liveO _ _ _ = true); first | assumption | (exact liveO_setS (by assumption)) | (exact PtL.live (by assumption)) | (exact PtL.liveA (by assumption) _) | (simp only [go_sem]; done)) | omega | assumption | rfl | (simp only [go_sem]; first | done | omega)) only [go_sem, reduceIte, reduceCtorEq, Nat.reduceAdd, Nat.reduceMul, Nat.reduceSub, Nat.reduceLeDiff, Nat.lt_irrefl, Nat.reduceLT, Nat.reduceEqDiff, Nat.reduceBEq, Int.reduceLE, Int.reduceLT, Int.reduceToNat, w64, eq_self])
    | (with_reducible refine AW_seq (fun K hK => ?_))
    | (with_reducible refine AW_region tyOk ?_)
    | (with_reducible refine AOps_cons (fun K hK => ?_))
    | ((with_reducible refine AOps_nil ?_); try simp only [thenA, blockA, if_true, if_false, reduceIte, Nat.reduceEqDiff, reduceCtorEq])
    | (with_reducible refine AW_block ?_)
    | ((first | (with_reducible refine AW_ret ?_) | (with_reducible refine AW_skip ?_) | (with_reducible refine AW_exit ?_)); try simp only [thenA, blockA, if_true, if_false, reduceIte, Nat.reduceEqDiff, reduceCtorEq])
    | ((with_reducible show AW _ _ (.cond _ _ _) _ _ _); refine AW_cond rfl (fun hg => ?_) (fun hg => ?_) <;> first | (exfalso; simp only [reduceCtorEq] at hg; done) | ((try simp only [Bool.not_eq_true', Bool.not_eq_false', decide_eq_true_eq, decide_eq_false_iff_not] at hg); try (exfalso; omega)))
    | ((with_reducible show _ ∧ _); refine And.intro (fun hg => ?_) (fun hg => ?_) <;> (try simp only [Bool.not_eq_true', Bool.not_eq_false'] at hg) <;> simp only [hg] <;> (try simp only [decide_eq_true_eq, decide_eq_false_iff_not] at hg) <;> (try (exfalso; omega)))
    | (clear hK K)
    | fail)
  refine AW_loopV [10, 11, 12, 13, 14, 15, 16, 17, 18, 19, 20, 21, 22, 23, 24, 25, 26, 27, 28, 29, 30, 31, 32, 33, 34, 35, 36, 37] (fun i : Nat => [(10, .int .i64 (i : Nat))]) (fun i => H.set id ⟨ver, false, el, 2, fl F (xch P U M V R i)⟩) (fun i => i ≤ m) (fun i => m - i) 0 (Nat.zero_le _) ?_ ?_ ?_
  · simp only [junkAll, setAll, List.foldl_cons, List.foldl_nil, List.set_cons_succ, List.set_cons_zero, JL, true_or, or_true, and_true, true_and, reduceCtorEq, false_or, or_false, LV.int.injEq, LV.bool.injEq, LV.flt.injEq, LV.sl.injEq, LV.ptr.injEq, eq_self, Int.natCast_add, Int.natCast_one, Int.natCast_zero, Int.ofNat_zero]
  · rw [xch_0]; exact (set_self h).symm
  · intro i hi K hK
    obtain ⟨E, hE⟩ : ∃ E, xch P U M V R i = E := ⟨_, rfl⟩
    have hEl : E.length = n := by rw [← hE, xch_len _ _ _ _ _ _ (by omega) (by omega)]; omega
    rw [hE]
    simp only [junkAll, setAll, List.foldl_cons, List.foldl_nil, List.set_cons_succ, List.set_cons_zero]
    by_cases him : i < m
    · have hEs : swp E (a + i) (b + i) = xch P U M V R (i + 1) := by rw [← hE, xch_step _ _ _ _ _ _ (by omega) (by omega) (by omega) (by omega)]
      have e1 : ((a : Int) + (i : Int)).toNat = a + i := by omega
      have e2 : ((b : Int) + (i : Int)).toNat = b + i := by omega
      obtain ⟨hp1, hp2⟩ := hput2W hc.len (ver := ver) (el := el) hid hEl (a + i) (b + i) (by omega) (by omega)
      repeat' (first
        | ((with_reducible refine hK _ _ ?_); clear hK K)
        | ((with_reducible refine hK _ ?_); clear hK K; try simp only [])
        | ((first | (with_reducible show AOp _ _ _ _ _ _ _) | (with_reducible show AQOp _ _ _ _ _ _ _)); simp (disch := first | ((with_reducible show liveO _ _ _ = true); first | assumption | (exact liveO_setS (by assumption)) | (exact PtL.live (by assumption)) | (exact PtL.liveA (by assumption) _) | (simp only [go_sem]; done)) | omega | assumption | rfl | (simp only [go_sem]; first | done | omega)) only [go_sem, reduceIte, reduceCtorEq, Nat.reduceAdd, Nat.reduceMul, Nat.reduceSub, Nat.reduceLeDiff, Nat.lt_irrefl, Nat.reduceLT, Nat.reduceEqDiff, Nat.reduceBEq, Int.reduceLE, Int.reduceLT, Int.reduceToNat, w64, eq_self, hgetsW hc.len hid, hp1, hp2, e1, e2, hEl, hc.len, hc.cells])
        | (with_reducible refine AW_seq (fun K hK => ?_))
        | (with_reducible refine AW_region tyOk ?_)
        | ((with_reducible apply AW_tree (id := 3) tyOk 24); (kernel_rfl); (exact rfl))
        | ((with_reducible refine AAny_leaf (by decide +kernel) ?_); exact ⟨rfl, rfl⟩)
        | (with_reducible refine AAny_pure 0 rfl rfl (by decide +kernel) (by decide +kernel) (fun K hK => ?_))
        | (with_reducible refine AAny_pure 1 rfl rfl (by decide +kernel) (by decide +kernel) (fun K hK => ?_))
        | (with_reducible refine AAny_pure 2 rfl rfl (by decide +kernel) (by decide +kernel) (fun K hK => ?_))
        | (with_reducible refine AAny_pure 3 rfl rfl (by decide +kernel) (by decide +kernel) (fun K hK => ?_))
        | (with_reducible refine AAny_pure 4 rfl rfl (by decide +kernel) (by decide +kernel) (fun K hK => ?_))
        | (with_reducible refine AAny_pure 5 rfl rfl (by decide +kernel) (by decide +kernel) (fun K hK => ?_))
        | (with_reducible refine AAny_pure 6 rfl rfl (by decide +kernel) (by decide +kernel) (fun K hK => ?_))
        | (with_reducible refine AAny_pure 7 rfl rfl (by decide +kernel) (by decide +kernel) (fun K hK => ?_))
        | (with_reducible refine AAny_pure 8 rfl rfl (by decide +kernel) (by decide +kernel) (fun K hK => ?_))
        | (with_reducible refine AAny_pure 9 rfl rfl (by decide +kernel) (by decide +kernel) (fun K hK => ?_))
        | (with_reducible refine AAny_pure 10 rfl rfl (by decide +kernel) (by decide +kernel) (fun K hK => ?_))
        | (with_reducible refine AAny_pure 11 rfl rfl (by decide +kernel) (by decide +kernel) (fun K hK => ?_))
        | (with_reducible refine AAny_pure 14 rfl rfl (by decide +kernel) (by decide +kernel) (fun K hK => ?_))
        | (with_reducible refine AAny_pure 15 rfl rfl (by decide +kernel) (by decide +kernel) (fun K hK => ?_))
        | (with_reducible refine AAny_pure 16 rfl rfl (by decide +kernel) (by decide +kernel) (fun K hK => ?_))
        | (with_reducible refine AAny_pure 17 rfl rfl (by decide +kernel) (by decide +kernel) (fun K hK => ?_))
        | (with_reducible refine AAny_step 12 [18] (by decide +kernel) ?_)
        | (with_reducible refine AAny_step 12 [19] (by decide +kernel) ?_)
        | (with_reducible refine AAny_step 13 [18] (by decide +kernel) ?_)
        | (with_reducible refine AAny_step 13 [19] (by decide +kernel) ?_)
        | (with_reducible refine AAny_step 12 [] (by decide +kernel) ?_)
        | (with_reducible refine AAny_step 13 [] (by decide +kernel) ?_)
        | (with_reducible refine AAny_step 18 [] (by decide +kernel) ?_)
        | (with_reducible refine AAny_step 19 [] (by decide +kernel) ?_)
        | (with_reducible refine AAny_step 20 [] (by decide +kernel) ?_)
        | (with_reducible refine AAny_step 21 [] (by decide +kernel) ?_)
        | (with_reducible refine AAny_step 22 [] (by decide +kernel) ?_)
        | (with_reducible refine AAny_step 23 [] (by decide +kernel) ?_)
        | (with_reducible refine AAll_cons rfl (fun K hK => ?_) ?_)
        | (with_reducible exact AAll_nil)
        | ((with_reducible show thenA _ _ _ _ _); simp only [thenA, blockA, if_true, if_false, reduceIte])
        | ((with_reducible show blockA _ _ _ _ _); simp only [thenA, blockA, if_true, if_false, reduceIte, Nat.reduceEqDiff, reduceCtorEq])
        | (with_reducible refine AOps_cons (fun K hK => ?_))
        | (with_reducible refine AQOps_cons (fun K hK => ?_))
        | ((with_reducible refine AQOps_nil ?_); try simp only [thenA, blockA, if_true, if_false, reduceIte, Nat.reduceEqDiff, reduceCtorEq])
        | ((with_reducible refine AOps_nil ?_); try simp only [thenA, blockA, if_true, if_false, reduceIte, Nat.reduceEqDiff, reduceCtorEq])
        | (with_reducible refine AW_block ?_)
        | ((first | (with_reducible refine AW_ret ?_) | (with_reducible refine AW_skip ?_) | (with_reducible refine AW_exit ?_)); try simp only [thenA, blockA, if_true, if_false, reduceIte, Nat.reduceEqDiff, reduceCtorEq])
        | ((with_reducible show AW _ _ (.cond _ _ _) _ _ _); refine AW_cond rfl (fun hg => ?_) (fun hg => ?_) <;> first | (exfalso; simp only [reduceCtorEq] at hg; done) | ((try simp only [Bool.not_eq_true', Bool.not_eq_false', decide_eq_true_eq, decide_eq_false_iff_not] at hg); try (exfalso; omega)))
        | ((with_reducible show _ ∧ _); refine And.intro (fun hg => ?_) (fun hg => ?_) <;> (try simp only [Bool.not_eq_true', Bool.not_eq_false'] at hg) <;> simp only [hg] <;> (try simp only [decide_eq_true_eq, decide_eq_false_iff_not] at hg) <;> (try (exfalso; omega)))
        | (clear hK K)
        | fail)
      refine hK _ _ (i + 1) (by omega) (by omega) ?_ ?_
      · simp only [junkAll, setAll, List.foldl_cons, List.foldl_nil, List.set_cons_succ, List.set_cons_zero, JL, true_or, or_true, and_true, true_and, reduceCtorEq, false_or, or_false, LV.int.injEq, LV.bool.injEq, LV.flt.injEq, LV.sl.injEq, LV.ptr.injEq, eq_self, Int.natCast_add, Int.natCast_one, Int.natCast_zero, Int.ofNat_zero]
      · rw [← hEs]
    · repeat' (first
        | ((with_reducible refine hK _ _ ?_); clear hK K)
        | ((first | (with_reducible show AOp _ _ _ _ _ _ _)); simp (disch := first | ((with_reducible show liveO _ _ _ = true); first | assumption | (exact liveO_setS (by assumption)) | (exact PtL.live (by assumption)) | (exact PtL.liveA (by assumption) _) | (simp only [go_sem]; done)) | omega | assumption | rfl | (simp only [go_sem]; first | done | omega)) only [go_sem, reduceIte, reduceCtorEq, Nat.reduceAdd, Nat.reduceMul, Nat.reduceSub, Nat.reduceLeDiff, Nat.lt_irrefl, Nat.reduceLT, Nat.reduceEqDiff, Nat.reduceBEq, Int.reduceLE, Int.reduceLT, Int.reduceToNat, w64, eq_self])
        | (with_reducible refine AW_seq (fun K hK => ?_))
        | (with_reducible refine AW_region tyOk ?_)
        | (with_reducible refine AOps_cons (fun K hK => ?_))
        | ((with_reducible refine AOps_nil ?_); try simp only [thenA, blockA, if_true, if_false, reduceIte, Nat.reduceEqDiff, reduceCtorEq])
        | (with_reducible refine AW_block ?_)
        | ((first | (with_reducible refine AW_ret ?_) | (with_reducible refine AW_skip ?_) | (with_reducible refine AW_exit ?_)); try simp only [thenA, blockA, if_true, if_false, reduceIte, Nat.reduceEqDiff, reduceCtorEq])
        | ((with_reducible show AW _ _ (.cond _ _ _) _ _ _); refine AW_cond rfl (fun hg => ?_) (fun hg => ?_) <;> first | (exfalso; simp only [reduceCtorEq] at hg; done) | ((try simp only [Bool.not_eq_true', Bool.not_eq_false', decide_eq_true_eq, decide_eq_false_iff_not] at hg); try (exfalso; omega)))
        | ((with_reducible show _ ∧ _); refine And.intro (fun hg => ?_) (fun hg => ?_) <;> (try simp only [Bool.not_eq_true', Bool.not_eq_false'] at hg) <;> simp only [hg] <;> (try simp only [decide_eq_true_eq, decide_eq_false_iff_not] at hg) <;> (try (exfalso; omega)))
        | (clear hK K)
        | fail)
      all_goals (first | refine EndA_cut hcl (by first | exact Or.inr rfl | exact Or.inl rfl) (by simp only [Try.results57, resA, aresL, go_sem, reduceIte, reduceCtorEq, Nat.reduceAdd, Nat.reduceMul, Nat.reduceSub, Nat.reduceLeDiff, Nat.lt_irrefl, Nat.reduceLT, Nat.reduceEqDiff, Nat.reduceBEq, Int.reduceLE, Int.reduceLT, Int.reduceToNat, w64, eq_self] <;> rfl) rfl ?_ | refine EndA_same (by first | exact Or.inr rfl | exact Or.inl rfl) (by simp only [Try.results57, resA, aresL, go_sem, reduceIte, reduceCtorEq, Nat.reduceAdd, Nat.reduceMul, Nat.reduceSub, Nat.reduceLeDiff, Nat.lt_irrefl, Nat.reduceLT, Nat.reduceEqDiff, Nat.reduceBEq, Int.reduceLE, Int.reduceLT, Int.reduceToNat, w64, eq_self] <;> rfl) ?_)
      refine ⟨rfl, ?_⟩
      rw [← hE, show i = U.length by omega, xch_all _ _ _ _ _ (by omega)]
end Go.Proofs.Yteejnmgjjefbiaa
