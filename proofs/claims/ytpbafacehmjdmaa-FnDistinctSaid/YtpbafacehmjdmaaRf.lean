/- Counts of least lists, what is the same, how many are different, in the abstract machine. -/
import Derived.Test.YtpbafacehmjdmaaRd
namespace Go.Proofs.Ytpbafacehmjdmaa
open Go.RowKit
set_option linter.unusedSimpArgs false
set_option linter.unusedVariables false
set_option maxRecDepth 100000

theorem r8Same_c (x y : LV) (xs : List Int) (H : Hp) (h : RdL H x (xs.map (LV.int .i64))) (h' : RdL H y (xs.map (LV.int .i64))) (hn : xs.length ≤ 1048576) :
    FunH Try.prog 16 [x, y] H fun r H' => r = .bool true ∧ H' = H := by
  have hl := h.lenm
  have hl' := h'.lenm
  have hne : ((((xs.length : Nat)) : Int) != ((xs.length : Nat) : Int)) = false := by simp
  (refine FunH_body tyOk Try.func16 rfl (by kernel_rfl) Try.ntmps16 (fun hcl hbd => ?_); simp only [List.length_cons, List.length_nil, Nat.reduceAdd, Nat.reduceSub, List.replicate, List.cons_append, List.nil_append])
  repeat' (first
 | ((with_reducible refine hK _ _ ?_); clear hK K)
 | ((first | (with_reducible show AOp _ _ _ _ _ _ _)); simp (disch := first | ((with_reducible show liveO _ _ _ = true); first | assumption | (exact liveO_setS (by assumption)) | (exact PtL.live (by assumption)) | (exact PtL.liveA (by assumption) _) | (simp only [go_sem]; done)) | omega | assumption | rfl | (simp only [go_sem]; first | done | omega)) only [go_sem, reduceIte, reduceCtorEq, Nat.reduceAdd, Nat.reduceMul, Nat.reduceSub, Nat.reduceLeDiff, Nat.lt_irrefl, Nat.reduceLT, Nat.reduceEqDiff, Nat.reduceBEq, Int.reduceLE, Int.reduceLT, Int.reduceToNat, w64, eq_self, hl, hl', hne])
 | (with_reducible refine AW_seq (fun K hK => ?_))
 | (with_reducible refine AW_region tyOk ?_)
 | (with_reducible refine AOps_cons (fun K hK => ?_))
 | ((with_reducible refine AOps_nil ?_); try simp only [thenA, blockA, if_true, if_false, reduceIte, Nat.reduceEqDiff, reduceCtorEq])
 | (with_reducible refine AW_block ?_)
 | ((first | (with_reducible refine AW_ret ?_) | (with_reducible refine AW_skip ?_) | (with_reducible refine AW_exit ?_)); try simp only [thenA, blockA, if_true, if_false, reduceIte, Nat.reduceEqDiff, reduceCtorEq])
 | ((with_reducible show AW _ _ (.cond _ _ _) _ _ _); refine AW_cond rfl (fun hg => ?_) (fun hg => ?_) <;> first | (exfalso; simp only [reduceCtorEq] at hg; done) | ((try simp only [Bool.not_eq_true', Bool.not_eq_false', decide_eq_true_eq, decide_eq_false_iff_not] at hg); try (exfalso; omega)))
 | ((with_reducible show _ ∧ _); refine And.intro (fun hg => ?_) (fun hg => ?_) <;> (try simp only [Bool.not_eq_true', Bool.not_eq_false'] at hg) <;> simp only [hg] <;> (try simp only [decide_eq_true_eq, decide_eq_false_iff_not] at hg) <;> (try (exfalso; omega)))
 | (clear hK K)
    | fail)
  refine AW_loopV [4, 5, 11, 12, 13, 14, 15, 16, 17, 18, 19, 20, 21, 22, 23, 24, 25] (fun k : Nat => [(5, .int .i64 (k : Nat))]) (fun _ => H) (fun k => k ≤ xs.length) (fun k => xs.length - k) 0 (Nat.zero_le _) ?_ rfl ?_
  · simp only [junkAll, setAll, List.foldl_cons, List.foldl_nil, List.set_cons_succ, List.set_cons_zero, JL, true_or, or_true, and_true, true_and, reduceCtorEq, false_or, or_false, LV.int.injEq, LV.bool.injEq, LV.flt.injEq, LV.sl.injEq, LV.ptr.injEq, eq_self, Int.natCast_add, Int.natCast_one, Int.natCast_zero, Int.ofNat_zero]
  intro k hk K hK
  simp only [junkAll, setAll, List.foldl_cons, List.foldl_nil, List.set_cons_succ, List.set_cons_zero]
  by_cases hkl : k < xs.length
  · have hxx : ((ix xs k) != (ix xs k)) = false := by simp
    repeat' (first
 | ((with_reducible refine hK _ _ ?_); clear hK K)
 | ((with_reducible refine hK _ ?_); clear hK K; try simp only [])
 | ((first | (with_reducible show AOp _ _ _ _ _ _ _) | (with_reducible show AQOp _ _ _ _ _ _ _)); simp (disch := first | ((with_reducible show liveO _ _ _ = true); first | assumption | (exact liveO_setS (by assumption)) | (exact PtL.live (by assumption)) | (exact PtL.liveA (by assumption) _) | (simp only [go_sem]; done)) | omega | assumption | rfl | (simp only [go_sem]; first | done | omega)) only [go_sem, reduceIte, reduceCtorEq, Nat.reduceAdd, Nat.reduceMul, Nat.reduceSub, Nat.reduceLeDiff, Nat.lt_irrefl, Nat.reduceLT, Nat.reduceEqDiff, Nat.reduceBEq, Int.reduceLE, Int.reduceLT, Int.reduceToNat, w64, eq_self, hl, h.idxm, h.ldm, h'.idxm, h'.ldm, hxx])
 | (with_reducible refine AW_seq (fun K hK => ?_))
 | (with_reducible refine AW_region tyOk ?_)
 | ((with_reducible refine AW_quiet (id := 6) tyOk ?_ ?_ ?_); (kernel_rfl); (kernel_rfl))
 | (with_reducible refine AOps_cons (fun K hK => ?_))
 | (with_reducible refine AQOps_cons (fun K hK => ?_))
 | ((with_reducible refine AQOps_nil ?_); try simp only [thenA, blockA, if_true, if_false, reduceIte, Nat.reduceEqDiff, reduceCtorEq])
 | ((with_reducible refine AOps_nil ?_); try simp only [thenA, blockA, if_true, if_false, reduceIte, Nat.reduceEqDiff, reduceCtorEq])
 | (with_reducible refine AW_block ?_)
 | ((first | (with_reducible refine AW_ret ?_) | (with_reducible refine AW_skip ?_) | (with_reducible refine AW_exit ?_)); try simp only [thenA, blockA, if_true, if_false, reduceIte, Nat.reduceEqDiff, reduceCtorEq])
 | ((with_reducible show AW _ _ (.cond _ _ _) _ _ _); refine AW_cond rfl (fun hg => ?_) (fun hg => ?_) <;> first | (exfalso; simp only [reduceCtorEq] at hg; done) | ((try simp only [Bool.not_eq_true', Bool.not_eq_false', decide_eq_true_eq, decide_eq_false_iff_not] at hg); try (exfalso; omega)))
 | ((with_reducible show _ ∧ _); refine And.intro (fun hg => ?_) (fun hg => ?_) <;> (try simp only [Bool.not_eq_true', Bool.not_eq_false'] at hg) <;> simp only [hg] <;> (try simp only [decide_eq_true_eq, decide_eq_false_iff_not] at hg) <;> (try (exfalso; omega)))
 | (clear hK K)
      | fail)
    refine hK _ _ (k + 1) (by omega) (by omega) ?_ rfl
    simp only [junkAll, setAll, List.foldl_cons, List.foldl_nil, List.set_cons_succ, List.set_cons_zero, JL, true_or, or_true, and_true, true_and, reduceCtorEq, false_or, or_false, LV.int.injEq, LV.bool.injEq, LV.flt.injEq, LV.sl.injEq, LV.ptr.injEq, eq_self, Int.natCast_add, Int.natCast_one, Int.natCast_zero, Int.ofNat_zero]
  · repeat' (first
 | ((with_reducible refine hK _ _ ?_); clear hK K)
 | ((first | (with_reducible show AOp _ _ _ _ _ _ _)); simp (disch := first | ((with_reducible show liveO _ _ _ = true); first | assumption | (exact liveO_setS (by assumption)) | (exact PtL.live (by assumption)) | (exact PtL.liveA (by assumption) _) | (simp only [go_sem]; done)) | omega | assumption | rfl | (simp only [go_sem]; first | done | omega)) only [go_sem, reduceIte, reduceCtorEq, Nat.reduceAdd, Nat.reduceMul, Nat.reduceSub, Nat.reduceLeDiff, Nat.lt_irrefl, Nat.reduceLT, Nat.reduceEqDiff, Nat.reduceBEq, Int.reduceLE, Int.reduceLT, Int.reduceToNat, w64, eq_self, hl])
 | (with_reducible refine AW_seq (fun K hK => ?_))
 | (with_reducible refine AW_region tyOk ?_)
 | (with_reducible refine AOps_cons (fun K hK => ?_))
 | ((with_reducible refine AOps_nil ?_); try simp only [thenA, blockA, if_true, if_false, reduceIte, Nat.reduceEqDiff, reduceCtorEq])
 | (with_reducible refine AW_block ?_)
 | ((first | (with_reducible refine AW_ret ?_) | (with_reducible refine AW_skip ?_) | (with_reducible refine AW_exit ?_)); try simp only [thenA, blockA, if_true, if_false, reduceIte, Nat.reduceEqDiff, reduceCtorEq])
 | ((with_reducible show AW _ _ (.cond _ _ _) _ _ _); refine AW_cond rfl (fun hg => ?_) (fun hg => ?_) <;> first | (exfalso; simp only [reduceCtorEq] at hg; done) | ((try simp only [Bool.not_eq_true', Bool.not_eq_false', decide_eq_true_eq, decide_eq_false_iff_not] at hg); try (exfalso; omega)))
 | ((with_reducible show _ ∧ _); refine And.intro (fun hg => ?_) (fun hg => ?_) <;> (try simp only [Bool.not_eq_true', Bool.not_eq_false'] at hg) <;> simp only [hg] <;> (try simp only [decide_eq_true_eq, decide_eq_false_iff_not] at hg) <;> (try (exfalso; omega)))
 | (clear hK K)
      | fail)
    all_goals (first | refine EndA_cut hcl (by first | exact Or.inr rfl | exact Or.inl rfl) (by simp only [Try.results16, resA, aresL, go_sem, reduceIte, reduceCtorEq, Nat.reduceAdd, Nat.reduceMul, Nat.reduceSub, Nat.reduceLeDiff, Nat.lt_irrefl, Nat.reduceLT, Nat.reduceEqDiff, Nat.reduceBEq, Int.reduceLE, Int.reduceLT, Int.reduceToNat, w64, eq_self] <;> rfl) rfl ?_ | refine EndA_same (by first | exact Or.inr rfl | exact Or.inl rfl) (by simp only [Try.results16, resA, aresL, go_sem, reduceIte, reduceCtorEq, Nat.reduceAdd, Nat.reduceMul, Nat.reduceSub, Nat.reduceLeDiff, Nat.lt_irrefl, Nat.reduceLT, Nat.reduceEqDiff, Nat.reduceBEq, Int.reduceLE, Int.reduceLT, Int.reduceToNat, w64, eq_self] <;> rfl) ?_)
    all_goals exact ⟨rfl, rfl⟩
set_option maxHeartbeats 2000000 in
theorem r8Distinct_c (x : LV) (xs : List Int) (H : Hp) (h : RdL H x (xs.map (LV.int .i64))) (hn : xs.length ≤ 1048576) :
    FunH Try.prog 11 [x] H fun r H' => r = .int .i64 (dsN xs : Nat) ∧ H' = H := by
  have hl := h.lenm
  (refine FunH_body tyOk Try.func11 rfl (by kernel_rfl) Try.ntmps11 (fun hcl hbd => ?_); simp only [List.length_cons, List.length_nil, Nat.reduceAdd, Nat.reduceSub, List.replicate, List.cons_append, List.nil_append])
  repeat' (first
 | ((with_reducible refine hK _ _ ?_); clear hK K)
 | ((first | (with_reducible show AOp _ _ _ _ _ _ _)); simp (disch := first | ((with_reducible show liveO _ _ _ = true); first | assumption | (exact liveO_setS (by assumption)) | (exact PtL.live (by assumption)) | (exact PtL.liveA (by assumption) _) | (simp only [go_sem]; done)) | omega | assumption | rfl | (simp only [go_sem]; first | done | omega)) only [go_sem, reduceIte, reduceCtorEq, Nat.reduceAdd, Nat.reduceMul, Nat.reduceSub, Nat.reduceLeDiff, Nat.lt_irrefl, Nat.reduceLT, Nat.reduceEqDiff, Nat.reduceBEq, Int.reduceLE, Int.reduceLT, Int.reduceToNat, w64, eq_self, hl])
 | (with_reducible refine AW_seq (fun K hK => ?_))
 | (with_reducible refine AW_region tyOk ?_)
 | (with_reducible refine AOps_cons (fun K hK => ?_))
 | ((with_reducible refine AOps_nil ?_); try simp only [thenA, blockA, if_true, if_false, reduceIte, Nat.reduceEqDiff, reduceCtorEq])
 | (with_reducible refine AW_block ?_)
 | ((first | (with_reducible refine AW_ret ?_) | (with_reducible refine AW_skip ?_) | (with_reducible refine AW_exit ?_)); try simp only [thenA, blockA, if_true, if_false, reduceIte, Nat.reduceEqDiff, reduceCtorEq])
 | ((with_reducible show AW _ _ (.cond _ _ _) _ _ _); refine AW_cond rfl (fun hg => ?_) (fun hg => ?_) <;> first | (exfalso; simp only [reduceCtorEq] at hg; done) | ((try simp only [Bool.not_eq_true', Bool.not_eq_false', decide_eq_true_eq, decide_eq_false_iff_not] at hg); try (exfalso; omega)))
 | ((with_reducible show _ ∧ _); refine And.intro (fun hg => ?_) (fun hg => ?_) <;> (try simp only [Bool.not_eq_true', Bool.not_eq_false'] at hg) <;> simp only [hg] <;> (try simp only [decide_eq_true_eq, decide_eq_false_iff_not] at hg) <;> (try (exfalso; omega)))
 | (clear hK K)
    | fail)
  refine AW_loopV [3, 4, 5, 6, 7, 8, 9, 10, 11, 12, 13, 14, 15, 16, 17, 18, 19, 20, 21, 22, 23, 24, 25, 26, 27, 28, 29, 30, 31, 32] (fun k : Nat => [(3, .int .i64 ((dsN (xs.take k) : Nat) : Int)), (4, .int .i64 (k : Nat))]) (fun _ => H) (fun k => k ≤ xs.length) (fun k => xs.length - k) 0 (Nat.zero_le _) ?_ rfl ?_
  · simp only [junkAll, setAll, List.foldl_cons, List.foldl_nil, List.set_cons_succ, List.set_cons_zero, JL, true_or, or_true, and_true, true_and, reduceCtorEq, false_or, or_false, LV.int.injEq, LV.bool.injEq, LV.flt.injEq, LV.sl.injEq, LV.ptr.injEq, eq_self, Int.natCast_add, Int.natCast_one, Int.natCast_zero, Int.ofNat_zero]; rfl
  intro i hi K hK
  have hdl := dsN_le (xs.take i)
  rw [List.length_take] at hdl
  simp only [junkAll, setAll, List.foldl_cons, List.foldl_nil, List.set_cons_succ, List.set_cons_zero]
  by_cases hil : i < xs.length
  · obtain ⟨v, hv⟩ : ∃ v, ix xs i = v := ⟨_, rfl⟩
    repeat' (first
 | ((with_reducible refine hK _ _ ?_); clear hK K)
 | ((first | (with_reducible show AOp _ _ _ _ _ _ _)); simp (disch := first | ((with_reducible show liveO _ _ _ = true); first | assumption | (exact liveO_setS (by assumption)) | (exact PtL.live (by assumption)) | (exact PtL.liveA (by assumption) _) | (simp only [go_sem]; done)) | omega | assumption | rfl | (simp only [go_sem]; first | done | omega)) only [go_sem, reduceIte, reduceCtorEq, Nat.reduceAdd, Nat.reduceMul, Nat.reduceSub, Nat.reduceLeDiff, Nat.lt_irrefl, Nat.reduceLT, Nat.reduceEqDiff, Nat.reduceBEq, Int.reduceLE, Int.reduceLT, Int.reduceToNat, w64, eq_self, hl])
 | (with_reducible refine AW_seq (fun K hK => ?_))
 | (with_reducible refine AW_region tyOk ?_)
 | (with_reducible refine AOps_cons (fun K hK => ?_))
 | ((with_reducible refine AOps_nil ?_); try simp only [thenA, blockA, if_true, if_false, reduceIte, Nat.reduceEqDiff, reduceCtorEq])
 | (with_reducible refine AW_block ?_)
 | ((first | (with_reducible refine AW_ret ?_) | (with_reducible refine AW_skip ?_) | (with_reducible refine AW_exit ?_)); try simp only [thenA, blockA, if_true, if_false, reduceIte, Nat.reduceEqDiff, reduceCtorEq])
 | ((with_reducible show AW _ _ (.cond _ _ _) _ _ _); refine AW_cond rfl (fun hg => ?_) (fun hg => ?_) <;> first | (exfalso; simp only [reduceCtorEq] at hg; done) | ((try simp only [Bool.not_eq_true', Bool.not_eq_false', decide_eq_true_eq, decide_eq_false_iff_not] at hg); try (exfalso; omega)))
 | ((with_reducible show _ ∧ _); refine And.intro (fun hg => ?_) (fun hg => ?_) <;> (try simp only [Bool.not_eq_true', Bool.not_eq_false'] at hg) <;> simp only [hg] <;> (try simp only [decide_eq_true_eq, decide_eq_false_iff_not] at hg) <;> (try (exfalso; omega)))
 | (clear hK K)
      | fail)
    refine AW_loopV [5, 6, 13, 14, 15, 16, 17, 18, 19, 20, 21, 22, 23, 24, 25, 26, 27, 28, 29] (fun j : Nat => [(5, .bool (!(xs.take j).contains v)), (6, .int .i64 (j : Nat))]) (fun _ => H) (fun j => j ≤ i) (fun j => i - j) 0 (Nat.zero_le _) ?_ rfl ?_
    · simp only [junkAll, setAll, List.foldl_cons, List.foldl_nil, List.set_cons_succ, List.set_cons_zero, JL, true_or, or_true, and_true, true_and, reduceCtorEq, false_or, or_false, LV.int.injEq, LV.bool.injEq, LV.flt.injEq, LV.sl.injEq, LV.ptr.injEq, eq_self, Int.natCast_add, Int.natCast_one, Int.natCast_zero, Int.ofNat_zero]; rfl
    intro j hj K hK
    have hct : ∀ j, j < xs.length → (xs.take (j + 1)).contains v = ((xs.take j).contains v || ix xs j == v) := fun j hj => by
      rw [take_ix _ _ hj, Bool.eq_iff_iff]
      simp only [List.contains_iff_mem, List.mem_append, List.mem_singleton, Bool.or_eq_true, beq_iff_eq]
      exact or_congr Iff.rfl eq_comm
    simp only [junkAll, setAll, List.foldl_cons, List.foldl_nil, List.set_cons_succ, List.set_cons_zero]
    by_cases hji : j < i
    · have hst := hct j (by omega)
      cases e : (xs.take j).contains v
      · rw [e, Bool.false_or] at hst
        cases e2 : ix xs j == v
        · rw [e2] at hst
          have hne : ((ix xs j) != v) = true := by simpa using e2
          repeat' (first
 | ((with_reducible refine hK _ _ ?_); clear hK K)
 | ((with_reducible refine hK _ ?_); clear hK K; try simp only [])
 | ((first | (with_reducible show AOp _ _ _ _ _ _ _) | (with_reducible show AQOp _ _ _ _ _ _ _)); simp (disch := first | ((with_reducible show liveO _ _ _ = true); first | assumption | (exact liveO_setS (by assumption)) | (exact PtL.live (by assumption)) | (exact PtL.liveA (by assumption) _) | (simp only [go_sem]; done)) | omega | assumption | rfl | (simp only [go_sem]; first | done | omega)) only [go_sem, reduceIte, reduceCtorEq, Nat.reduceAdd, Nat.reduceMul, Nat.reduceSub, Nat.reduceLeDiff, Nat.lt_irrefl, Nat.reduceLT, Nat.reduceEqDiff, Nat.reduceBEq, Int.reduceLE, Int.reduceLT, Int.reduceToNat, w64, eq_self, e, Bool.not_false, h.idxm, h.ldm, hv, hne])
 | (with_reducible refine AW_seq (fun K hK => ?_))
 | (with_reducible refine AW_region tyOk ?_)
 | ((with_reducible refine AW_quiet (id := 9) tyOk ?_ ?_ ?_); (kernel_rfl); (kernel_rfl))
 | (with_reducible refine AOps_cons (fun K hK => ?_))
 | (with_reducible refine AQOps_cons (fun K hK => ?_))
 | ((with_reducible refine AQOps_nil ?_); try simp only [thenA, blockA, if_true, if_false, reduceIte, Nat.reduceEqDiff, reduceCtorEq])
 | ((with_reducible refine AOps_nil ?_); try simp only [thenA, blockA, if_true, if_false, reduceIte, Nat.reduceEqDiff, reduceCtorEq])
 | (with_reducible refine AW_block ?_)
 | ((first | (with_reducible refine AW_ret ?_) | (with_reducible refine AW_skip ?_) | (with_reducible refine AW_exit ?_)); try simp only [thenA, blockA, if_true, if_false, reduceIte, Nat.reduceEqDiff, reduceCtorEq])
 | ((with_reducible show AW _ _ (.cond _ _ _) _ _ _); refine AW_cond rfl (fun hg => ?_) (fun hg => ?_) <;> first | (exfalso; simp only [reduceCtorEq] at hg; done) | ((try simp only [Bool.not_eq_true', Bool.not_eq_false', decide_eq_true_eq, decide_eq_false_iff_not] at hg); try (exfalso; omega)))
 | ((with_reducible show _ ∧ _); refine And.intro (fun hg => ?_) (fun hg => ?_) <;> (try simp only [Bool.not_eq_true', Bool.not_eq_false'] at hg) <;> simp only [hg] <;> (try simp only [decide_eq_true_eq, decide_eq_false_iff_not] at hg) <;> (try (exfalso; omega)))
 | (clear hK K)
            | fail)
          refine hK _ _ (j + 1) (by omega) (by omega) ?_ rfl
          simp only [junkAll, setAll, List.foldl_cons, List.foldl_nil, List.set_cons_succ, List.set_cons_zero, JL, true_or, or_true, and_true, true_and, reduceCtorEq, false_or, or_false, LV.int.injEq, LV.bool.injEq, LV.flt.injEq, LV.sl.injEq, LV.ptr.injEq, eq_self, Int.natCast_add, Int.natCast_one, Int.natCast_zero, Int.ofNat_zero]; rw [hst]; rfl
        · rw [e2] at hst
          have hne : ((ix xs j) != v) = false := by simpa using e2
          repeat' (first
 | ((with_reducible refine hK _ _ ?_); clear hK K)
 | ((with_reducible refine hK _ ?_); clear hK K; try simp only [])
 | ((first | (with_reducible show AOp _ _ _ _ _ _ _) | (with_reducible show AQOp _ _ _ _ _ _ _)); simp (disch := first | ((with_reducible show liveO _ _ _ = true); first | assumption | (exact liveO_setS (by assumption)) | (exact PtL.live (by assumption)) | (exact PtL.liveA (by assumption) _) | (simp only [go_sem]; done)) | omega | assumption | rfl | (simp only [go_sem]; first | done | omega)) only [go_sem, reduceIte, reduceCtorEq, Nat.reduceAdd, Nat.reduceMul, Nat.reduceSub, Nat.reduceLeDiff, Nat.lt_irrefl, Nat.reduceLT, Nat.reduceEqDiff, Nat.reduceBEq, Int.reduceLE, Int.reduceLT, Int.reduceToNat, w64, eq_self, e, Bool.not_false, h.idxm, h.ldm, hv, hne])
 | (with_reducible refine AW_seq (fun K hK => ?_))
 | (with_reducible refine AW_region tyOk ?_)
 | ((with_reducible refine AW_quiet (id := 9) tyOk ?_ ?_ ?_); (kernel_rfl); (kernel_rfl))
 | (with_reducible refine AOps_cons (fun K hK => ?_))
 | (with_reducible refine AQOps_cons (fun K hK => ?_))
 | ((with_reducible refine AQOps_nil ?_); try simp only [thenA, blockA, if_true, if_false, reduceIte, Nat.reduceEqDiff, reduceCtorEq])
 | ((with_reducible refine AOps_nil ?_); try simp only [thenA, blockA, if_true, if_false, reduceIte, Nat.reduceEqDiff, reduceCtorEq])
 | (with_reducible refine AW_block ?_)
 | ((first | (with_reducible refine AW_ret ?_) | (with_reducible refine AW_skip ?_) | (with_reducible refine AW_exit ?_)); try simp only [thenA, blockA, if_true, if_false, reduceIte, Nat.reduceEqDiff, reduceCtorEq])
 | ((with_reducible show AW _ _ (.cond _ _ _) _ _ _); refine AW_cond rfl (fun hg => ?_) (fun hg => ?_) <;> first | (exfalso; simp only [reduceCtorEq] at hg; done) | ((try simp only [Bool.not_eq_true', Bool.not_eq_false', decide_eq_true_eq, decide_eq_false_iff_not] at hg); try (exfalso; omega)))
 | ((with_reducible show _ ∧ _); refine And.intro (fun hg => ?_) (fun hg => ?_) <;> (try simp only [Bool.not_eq_true', Bool.not_eq_false'] at hg) <;> simp only [hg] <;> (try simp only [decide_eq_true_eq, decide_eq_false_iff_not] at hg) <;> (try (exfalso; omega)))
 | (clear hK K)
            | fail)
          refine hK _ _ (j + 1) (by omega) (by omega) ?_ rfl
          simp only [junkAll, setAll, List.foldl_cons, List.foldl_nil, List.set_cons_succ, List.set_cons_zero, JL, true_or, or_true, and_true, true_and, reduceCtorEq, false_or, or_false, LV.int.injEq, LV.bool.injEq, LV.flt.injEq, LV.sl.injEq, LV.ptr.injEq, eq_self, Int.natCast_add, Int.natCast_one, Int.natCast_zero, Int.ofNat_zero]; rw [hst]; rfl
      · rw [e, Bool.true_or] at hst
        repeat' (first
 | ((with_reducible refine hK _ _ ?_); clear hK K)
 | ((with_reducible refine hK _ ?_); clear hK K; try simp only [])
 | ((first | (with_reducible show AOp _ _ _ _ _ _ _) | (with_reducible show AQOp _ _ _ _ _ _ _)); simp (disch := first | ((with_reducible show liveO _ _ _ = true); first | assumption | (exact liveO_setS (by assumption)) | (exact PtL.live (by assumption)) | (exact PtL.liveA (by assumption) _) | (simp only [go_sem]; done)) | omega | assumption | rfl | (simp only [go_sem]; first | done | omega)) only [go_sem, reduceIte, reduceCtorEq, Nat.reduceAdd, Nat.reduceMul, Nat.reduceSub, Nat.reduceLeDiff, Nat.lt_irrefl, Nat.reduceLT, Nat.reduceEqDiff, Nat.reduceBEq, Int.reduceLE, Int.reduceLT, Int.reduceToNat, w64, eq_self, e, Bool.not_true])
 | (with_reducible refine AW_seq (fun K hK => ?_))
 | (with_reducible refine AW_region tyOk ?_)
 | ((with_reducible refine AW_quiet (id := 9) tyOk ?_ ?_ ?_); (kernel_rfl); (kernel_rfl))
 | (with_reducible refine AOps_cons (fun K hK => ?_))
 | (with_reducible refine AQOps_cons (fun K hK => ?_))
 | ((with_reducible refine AQOps_nil ?_); try simp only [thenA, blockA, if_true, if_false, reduceIte, Nat.reduceEqDiff, reduceCtorEq])
 | ((with_reducible refine AOps_nil ?_); try simp only [thenA, blockA, if_true, if_false, reduceIte, Nat.reduceEqDiff, reduceCtorEq])
 | (with_reducible refine AW_block ?_)
 | ((first | (with_reducible refine AW_ret ?_) | (with_reducible refine AW_skip ?_) | (with_reducible refine AW_exit ?_)); try simp only [thenA, blockA, if_true, if_false, reduceIte, Nat.reduceEqDiff, reduceCtorEq])
 | ((with_reducible show AW _ _ (.cond _ _ _) _ _ _); refine AW_cond rfl (fun hg => ?_) (fun hg => ?_) <;> first | (exfalso; simp only [reduceCtorEq] at hg; done) | ((try simp only [Bool.not_eq_true', Bool.not_eq_false', decide_eq_true_eq, decide_eq_false_iff_not] at hg); try (exfalso; omega)))
 | ((with_reducible show _ ∧ _); refine And.intro (fun hg => ?_) (fun hg => ?_) <;> (try simp only [Bool.not_eq_true', Bool.not_eq_false'] at hg) <;> simp only [hg] <;> (try simp only [decide_eq_true_eq, decide_eq_false_iff_not] at hg) <;> (try (exfalso; omega)))
 | (clear hK K)
          | fail)
        refine hK _ _ (j + 1) (by omega) (by omega) ?_ rfl
        simp only [junkAll, setAll, List.foldl_cons, List.foldl_nil, List.set_cons_succ, List.set_cons_zero, JL, true_or, or_true, and_true, true_and, reduceCtorEq, false_or, or_false, LV.int.injEq, LV.bool.injEq, LV.flt.injEq, LV.sl.injEq, LV.ptr.injEq, eq_self, Int.natCast_add, Int.natCast_one, Int.natCast_zero, Int.ofNat_zero]; rw [hst]; rfl
    · have hje : j = i := by omega
      rw [hje]
      have hds := dsN_snoc (xs.take i) v
      rw [← hv, ← take_ix _ _ hil, hv] at hds
      cases e : (xs.take i).contains v
      · have hni : ¬ v ∈ xs.take i := by rw [← List.contains_iff_mem, e]; simp
        rw [if_neg hni] at hds
        repeat' (first
 | ((with_reducible refine hK _ _ ?_); clear hK K)
 | ((first | (with_reducible show AOp _ _ _ _ _ _ _)); simp (disch := first | ((with_reducible show liveO _ _ _ = true); first | assumption | (exact liveO_setS (by assumption)) | (exact PtL.live (by assumption)) | (exact PtL.liveA (by assumption) _) | (simp only [go_sem]; done)) | omega | assumption | rfl | (simp only [go_sem]; first | done | omega)) only [go_sem, reduceIte, reduceCtorEq, Nat.reduceAdd, Nat.reduceMul, Nat.reduceSub, Nat.reduceLeDiff, Nat.lt_irrefl, Nat.reduceLT, Nat.reduceEqDiff, Nat.reduceBEq, Int.reduceLE, Int.reduceLT, Int.reduceToNat, w64, eq_self, e, Bool.not_false])
 | (with_reducible refine AW_seq (fun K hK => ?_))
 | (with_reducible refine AW_region tyOk ?_)
 | (with_reducible refine AOps_cons (fun K hK => ?_))
 | ((with_reducible refine AOps_nil ?_); try simp only [thenA, blockA, if_true, if_false, reduceIte, Nat.reduceEqDiff, reduceCtorEq])
 | (with_reducible refine AW_block ?_)
 | ((first | (with_reducible refine AW_ret ?_) | (with_reducible refine AW_skip ?_) | (with_reducible refine AW_exit ?_)); try simp only [thenA, blockA, if_true, if_false, reduceIte, Nat.reduceEqDiff, reduceCtorEq])
 | ((with_reducible show AW _ _ (.cond _ _ _) _ _ _); refine AW_cond rfl (fun hg => ?_) (fun hg => ?_) <;> first | (exfalso; simp only [reduceCtorEq] at hg; done) | ((try simp only [Bool.not_eq_true', Bool.not_eq_false', decide_eq_true_eq, decide_eq_false_iff_not] at hg); try (exfalso; omega)))
 | ((with_reducible show _ ∧ _); refine And.intro (fun hg => ?_) (fun hg => ?_) <;> (try simp only [Bool.not_eq_true', Bool.not_eq_false'] at hg) <;> simp only [hg] <;> (try simp only [decide_eq_true_eq, decide_eq_false_iff_not] at hg) <;> (try (exfalso; omega)))
 | (clear hK K)
          | fail)
        refine hK _ _ (i + 1) (by omega) (by omega) ?_ rfl
        simp only [junkAll, setAll, List.foldl_cons, List.foldl_nil, List.set_cons_succ, List.set_cons_zero, JL, true_or, or_true, and_true, true_and, reduceCtorEq, false_or, or_false, LV.int.injEq, LV.bool.injEq, LV.flt.injEq, LV.sl.injEq, LV.ptr.injEq, eq_self, Int.natCast_add, Int.natCast_one, Int.natCast_zero, Int.ofNat_zero]; rw [hds]; omega
      · have hni : v ∈ xs.take i := List.contains_iff_mem.1 e
        rw [if_pos hni] at hds
        repeat' (first
 | ((with_reducible refine hK _ _ ?_); clear hK K)
 | ((first | (with_reducible show AOp _ _ _ _ _ _ _)); simp (disch := first | ((with_reducible show liveO _ _ _ = true); first | assumption | (exact liveO_setS (by assumption)) | (exact PtL.live (by assumption)) | (exact PtL.liveA (by assumption) _) | (simp only [go_sem]; done)) | omega | assumption | rfl | (simp only [go_sem]; first | done | omega)) only [go_sem, reduceIte, reduceCtorEq, Nat.reduceAdd, Nat.reduceMul, Nat.reduceSub, Nat.reduceLeDiff, Nat.lt_irrefl, Nat.reduceLT, Nat.reduceEqDiff, Nat.reduceBEq, Int.reduceLE, Int.reduceLT, Int.reduceToNat, w64, eq_self, e, Bool.not_true])
 | (with_reducible refine AW_seq (fun K hK => ?_))
 | (with_reducible refine AW_region tyOk ?_)
 | (with_reducible refine AOps_cons (fun K hK => ?_))
 | ((with_reducible refine AOps_nil ?_); try simp only [thenA, blockA, if_true, if_false, reduceIte, Nat.reduceEqDiff, reduceCtorEq])
 | (with_reducible refine AW_block ?_)
 | ((first | (with_reducible refine AW_ret ?_) | (with_reducible refine AW_skip ?_) | (with_reducible refine AW_exit ?_)); try simp only [thenA, blockA, if_true, if_false, reduceIte, Nat.reduceEqDiff, reduceCtorEq])
 | ((with_reducible show AW _ _ (.cond _ _ _) _ _ _); refine AW_cond rfl (fun hg => ?_) (fun hg => ?_) <;> first | (exfalso; simp only [reduceCtorEq] at hg; done) | ((try simp only [Bool.not_eq_true', Bool.not_eq_false', decide_eq_true_eq, decide_eq_false_iff_not] at hg); try (exfalso; omega)))
 | ((with_reducible show _ ∧ _); refine And.intro (fun hg => ?_) (fun hg => ?_) <;> (try simp only [Bool.not_eq_true', Bool.not_eq_false'] at hg) <;> simp only [hg] <;> (try simp only [decide_eq_true_eq, decide_eq_false_iff_not] at hg) <;> (try (exfalso; omega)))
 | (clear hK K)
          | fail)
        refine hK _ _ (i + 1) (by omega) (by omega) ?_ rfl
        simp only [junkAll, setAll, List.foldl_cons, List.foldl_nil, List.set_cons_succ, List.set_cons_zero, JL, true_or, or_true, and_true, true_and, reduceCtorEq, false_or, or_false, LV.int.injEq, LV.bool.injEq, LV.flt.injEq, LV.sl.injEq, LV.ptr.injEq, eq_self, Int.natCast_add, Int.natCast_one, Int.natCast_zero, Int.ofNat_zero]; rw [hds]; rfl
  · have hie : i = xs.length := by omega
    rw [hie, List.take_length]
    repeat' (first
 | ((with_reducible refine hK _ _ ?_); clear hK K)
 | ((first | (with_reducible show AOp _ _ _ _ _ _ _)); simp (disch := first | ((with_reducible show liveO _ _ _ = true); first | assumption | (exact liveO_setS (by assumption)) | (exact PtL.live (by assumption)) | (exact PtL.liveA (by assumption) _) | (simp only [go_sem]; done)) | omega | assumption | rfl | (simp only [go_sem]; first | done | omega)) only [go_sem, reduceIte, reduceCtorEq, Nat.reduceAdd, Nat.reduceMul, Nat.reduceSub, Nat.reduceLeDiff, Nat.lt_irrefl, Nat.reduceLT, Nat.reduceEqDiff, Nat.reduceBEq, Int.reduceLE, Int.reduceLT, Int.reduceToNat, w64, eq_self, hl])
 | (with_reducible refine AW_seq (fun K hK => ?_))
 | (with_reducible refine AW_region tyOk ?_)
 | (with_reducible refine AOps_cons (fun K hK => ?_))
 | ((with_reducible refine AOps_nil ?_); try simp only [thenA, blockA, if_true, if_false, reduceIte, Nat.reduceEqDiff, reduceCtorEq])
 | (with_reducible refine AW_block ?_)
 | ((first | (with_reducible refine AW_ret ?_) | (with_reducible refine AW_skip ?_) | (with_reducible refine AW_exit ?_)); try simp only [thenA, blockA, if_true, if_false, reduceIte, Nat.reduceEqDiff, reduceCtorEq])
 | ((with_reducible show AW _ _ (.cond _ _ _) _ _ _); refine AW_cond rfl (fun hg => ?_) (fun hg => ?_) <;> first | (exfalso; simp only [reduceCtorEq] at hg; done) | ((try simp only [Bool.not_eq_true', Bool.not_eq_false', decide_eq_true_eq, decide_eq_false_iff_not] at hg); try (exfalso; omega)))
 | ((with_reducible show _ ∧ _); refine And.intro (fun hg => ?_) (fun hg => ?_) <;> (try simp only [Bool.not_eq_true', Bool.not_eq_false'] at hg) <;> simp only [hg] <;> (try simp only [decide_eq_true_eq, decide_eq_false_iff_not] at hg) <;> (try (exfalso; omega)))
 | (clear hK K)
      | fail)
    all_goals (first | refine EndA_cut hcl (by first | exact Or.inr rfl | exact Or.inl rfl) (by simp only [Try.results11, resA, aresL, go_sem, reduceIte, reduceCtorEq, Nat.reduceAdd, Nat.reduceMul, Nat.reduceSub, Nat.reduceLeDiff, Nat.lt_irrefl, Nat.reduceLT, Nat.reduceEqDiff, Nat.reduceBEq, Int.reduceLE, Int.reduceLT, Int.reduceToNat, w64, eq_self] <;> rfl) rfl ?_ | refine EndA_same (by first | exact Or.inr rfl | exact Or.inl rfl) (by simp only [Try.results11, resA, aresL, go_sem, reduceIte, reduceCtorEq, Nat.reduceAdd, Nat.reduceMul, Nat.reduceSub, Nat.reduceLeDiff, Nat.lt_irrefl, Nat.reduceLT, Nat.reduceEqDiff, Nat.reduceBEq, Int.reduceLE, Int.reduceLT, Int.reduceToNat, w64, eq_self] <;> rfl) ?_)
    all_goals exact ⟨rfl, rfl⟩
/-- What CountOfLeast tells. -/
def cvL (xs : List Int) (room : Int) : Option Nat := if (xs.length : Int) < room then some (FloatKind.f32.nearest ((xs.length : Nat) : Int)) else
  opC .quo .f32 (some (FloatKind.f32.nearest (room - 1))) (opC .quo .f32 (some (FloatKind.f32.nearest (ix xs (xs.length - 1) + 1))) (some 1333788672))
set_option maxHeartbeats 2000000 in
theorem iCountOfLeast_c (x : LV) (xs : List Int) (room : Int) (H : Hp) (h : RdL H x (xs.map (LV.int .i64))) (h0 : 0 < xs.length) (hr : inB room 1 256 = true) (hris : risB xs room = true) :
    FunH Try.prog 14 [x, .int .i64 room] H fun r H' => r = .tup [.flt .f32 (cvL xs room), .bool true] ∧ H' = H := by
  have hr' := hr
  unfold inB at hr'
  simp only [Bool.and_eq_true, decide_eq_true_eq] at hr'
  have hris' := hris
  unfold risB at hris'
  simp only [Bool.and_eq_true, decide_eq_true_eq] at hris'
  have hkb := (keyB_iff _).1 (List.all_eq_true.1 hris'.1.2 _ (ix_mem xs (xs.length - 1) (by omega)))
  obtain ⟨n, hn⟩ : ∃ n, xs.length = n + 1 := ⟨xs.length - 1, by omega⟩
  have hl : lenOf x = some (n + 1) := by rw [h.lenm, hn]
  have hlast := isLeastList_c x xs room H h (by omega)
  rw [hr, hris] at hlast
  have hc1 : (((n + 1 : Nat)) : Int) - 1 = (n : Nat) := by omega
  unfold cvL
  rw [hn, Nat.add_sub_cancel]
  rw [hn, Nat.add_sub_cancel] at hkb
  have hw1 : IntKind.i64.wrap (ix xs n + 1) = ix xs n + 1 := w64 _ (by omega) (by omega)
  have hw2 : IntKind.i64.wrap (room - 1) = room - 1 := w64 _ (by omega) (by omega)
  by_cases hlt : (((n + 1 : Nat)) : Int) < room
  · rw [if_pos hlt]
    (refine FunH_body tyOk Try.func14 rfl (by kernel_rfl) Try.ntmps14 (fun hcl hbd => ?_); simp only [List.length_cons, List.length_nil, Nat.reduceAdd, Nat.reduceSub, List.replicate, List.cons_append, List.nil_append])
    repeat' (first
 | ((with_reducible refine hK _ _ ?_); clear hK K)
 | ((first | (with_reducible show AOp _ _ _ _ _ _ _)); simp (disch := first | ((with_reducible show liveO _ _ _ = true); first | assumption | (exact liveO_setS (by assumption)) | (exact PtL.live (by assumption)) | (exact PtL.liveA (by assumption) _) | (simp only [go_sem]; done)) | omega | assumption | rfl | (simp only [go_sem]; first | done | omega)) only [go_sem, reduceIte, reduceCtorEq, Nat.reduceAdd, Nat.reduceMul, Nat.reduceSub, Nat.reduceLeDiff, Nat.lt_irrefl, Nat.reduceLT, Nat.reduceEqDiff, Nat.reduceBEq, Int.reduceLE, Int.reduceLT, Int.reduceToNat, w64, eq_self, hl, hlt])
 | (with_reducible refine AW_seq (fun K hK => ?_))
 | (with_reducible refine AW_region tyOk ?_)
 | (with_reducible refine AOps_cons (fun K hK => ?_))
 | ((with_reducible refine AOps_nil ?_); try simp only [thenA, blockA, if_true, if_false, reduceIte, Nat.reduceEqDiff, reduceCtorEq])
 | (with_reducible refine AW_block ?_)
 | ((first | (with_reducible refine AW_ret ?_) | (with_reducible refine AW_skip ?_) | (with_reducible refine AW_exit ?_)); try simp only [thenA, blockA, if_true, if_false, reduceIte, Nat.reduceEqDiff, reduceCtorEq])
 | ((with_reducible show AW _ _ (.cond _ _ _) _ _ _); refine AW_cond rfl (fun hg => ?_) (fun hg => ?_) <;> first | (exfalso; simp only [reduceCtorEq] at hg; done) | ((try simp only [Bool.not_eq_true', Bool.not_eq_false', decide_eq_true_eq, decide_eq_false_iff_not] at hg); try (exfalso; omega)))
 | ((with_reducible show _ ∧ _); refine And.intro (fun hg => ?_) (fun hg => ?_) <;> (try simp only [Bool.not_eq_true', Bool.not_eq_false'] at hg) <;> simp only [hg] <;> (try simp only [decide_eq_true_eq, decide_eq_false_iff_not] at hg) <;> (try (exfalso; omega)))
 | ((with_reducible apply FunH_intro); (first | exact hlast))
 | (clear hK K)
      | fail)
    all_goals try (exfalso; omega)
    all_goals (first | refine EndA_cut hcl (by first | exact Or.inr rfl | exact Or.inl rfl) (by simp only [Try.results14, resA, aresL, go_sem, reduceIte, reduceCtorEq, Nat.reduceAdd, Nat.reduceMul, Nat.reduceSub, Nat.reduceLeDiff, Nat.lt_irrefl, Nat.reduceLT, Nat.reduceEqDiff, Nat.reduceBEq, Int.reduceLE, Int.reduceLT, Int.reduceToNat, w64, eq_self] <;> rfl) rfl ?_ | refine EndA_same (by first | exact Or.inr rfl | exact Or.inl rfl) (by simp only [Try.results14, resA, aresL, go_sem, reduceIte, reduceCtorEq, Nat.reduceAdd, Nat.reduceMul, Nat.reduceSub, Nat.reduceLeDiff, Nat.lt_irrefl, Nat.reduceLT, Nat.reduceEqDiff, Nat.reduceBEq, Int.reduceLE, Int.reduceLT, Int.reduceToNat, w64, eq_self] <;> rfl) ?_)
    all_goals exact ⟨rfl, rfl⟩
  · rw [if_neg hlt]
    (refine FunH_body tyOk Try.func14 rfl (by kernel_rfl) Try.ntmps14 (fun hcl hbd => ?_); simp only [List.length_cons, List.length_nil, Nat.reduceAdd, Nat.reduceSub, List.replicate, List.cons_append, List.nil_append])
    repeat' (first
 | ((with_reducible refine hK _ _ ?_); clear hK K)
 | ((first | (with_reducible show AOp _ _ _ _ _ _ _)); simp (disch := first | ((with_reducible show liveO _ _ _ = true); first | assumption | (exact liveO_setS (by assumption)) | (exact PtL.live (by assumption)) | (exact PtL.liveA (by assumption) _) | (simp only [go_sem]; done)) | omega | assumption | rfl | (simp only [go_sem]; first | done | omega)) only [go_sem, reduceIte, reduceCtorEq, Nat.reduceAdd, Nat.reduceMul, Nat.reduceSub, Nat.reduceLeDiff, Nat.lt_irrefl, Nat.reduceLT, Nat.reduceEqDiff, Nat.reduceBEq, Int.reduceLE, Int.reduceLT, Int.reduceToNat, w64, eq_self, hl, hc1, hw1, hw2, h.idxm, h.ldm, hn])
 | (with_reducible refine AW_seq (fun K hK => ?_))
 | (with_reducible refine AW_region tyOk ?_)
 | (with_reducible refine AOps_cons (fun K hK => ?_))
 | ((with_reducible refine AOps_nil ?_); try simp only [thenA, blockA, if_true, if_false, reduceIte, Nat.reduceEqDiff, reduceCtorEq])
 | (with_reducible refine AW_block ?_)
 | ((first | (with_reducible refine AW_ret ?_) | (with_reducible refine AW_skip ?_) | (with_reducible refine AW_exit ?_)); try simp only [thenA, blockA, if_true, if_false, reduceIte, Nat.reduceEqDiff, reduceCtorEq])
 | ((with_reducible show AW _ _ (.cond _ _ _) _ _ _); refine AW_cond rfl (fun hg => ?_) (fun hg => ?_) <;> first | (exfalso; simp only [reduceCtorEq] at hg; done) | ((try simp only [Bool.not_eq_true', Bool.not_eq_false', decide_eq_true_eq, decide_eq_false_iff_not] at hg); try (exfalso; omega)))
 | ((with_reducible show _ ∧ _); refine And.intro (fun hg => ?_) (fun hg => ?_) <;> (try simp only [Bool.not_eq_true', Bool.not_eq_false'] at hg) <;> simp only [hg] <;> (try simp only [decide_eq_true_eq, decide_eq_false_iff_not] at hg) <;> (try (exfalso; omega)))
 | ((with_reducible apply FunH_intro); (first | exact hlast))
 | (clear hK K)
      | fail)
    all_goals try (exfalso; omega)
    all_goals (first | refine EndA_cut hcl (by first | exact Or.inr rfl | exact Or.inl rfl) (by simp only [Try.results14, resA, aresL, go_sem, reduceIte, reduceCtorEq, Nat.reduceAdd, Nat.reduceMul, Nat.reduceSub, Nat.reduceLeDiff, Nat.lt_irrefl, Nat.reduceLT, Nat.reduceEqDiff, Nat.reduceBEq, Int.reduceLE, Int.reduceLT, Int.reduceToNat, w64, eq_self] <;> rfl) rfl ?_ | refine EndA_same (by first | exact Or.inr rfl | exact Or.inl rfl) (by simp only [Try.results14, resA, aresL, go_sem, reduceIte, reduceCtorEq, Nat.reduceAdd, Nat.reduceMul, Nat.reduceSub, Nat.reduceLeDiff, Nat.lt_irrefl, Nat.reduceLT, Nat.reduceEqDiff, Nat.reduceBEq, Int.reduceLE, Int.reduceLT, Int.reduceToNat, w64, eq_self] <;> rfl) ?_)
    all_goals exact ⟨rfl, rfl⟩
end Go.Proofs.Ytpbafacehmjdmaa
