/- Copies of slices in the abstract machine. -/
import Derived.Test.YtfofkebkcjkjeaaAu
namespace Go.Proofs.Ytfofkebkcjkjeaa
open Go.RowKit
set_option linter.unusedSimpArgs false
set_option linter.unusedVariables false
set_option maxRecDepth 100000

theorem Clone_int64_c (lv : LV) (xs : List Int) (H : Hp) (h : RdL H lv (xs.map (LV.int .i64))) (hn : xs.length ≤ 17592186044416) :
    FunH Try.prog 73 [lv] H fun r H' => r = .sl H.length 0 0 xs.length none ∧ H' = H ++ [⟨0, false, 2, 1, xs.map (LV.int .i64)⟩] := by
  rcases Nat.eq_zero_or_pos xs.length with h0 | h0
  · have e : xs = [] := List.eq_nil_of_length_eq_zero h0
    subst e
    (refine FunH_body tyOk Try.func73 rfl (by kernel_rfl) Try.ntmps73 (fun hcl hbd => ?_); simp only [List.length_cons, List.length_nil, Nat.reduceAdd, Nat.reduceSub, List.replicate, List.cons_append, List.nil_append])
    repeat' (first
      | ((with_reducible refine hK _ _ ?_); clear hK K)
      | ((first | (with_reducible show AOp _ _ _ _ _ _ _)); simp (disch := first | ((with_reducible show liveO _ _ _ = true); first | assumption | (exact liveO_setS (by assumption)) | (exact PtL.live (by assumption)) | (exact PtL.liveA (by assumption) _) | (simp only [go_sem]; done)) | omega | assumption | rfl | (simp only [go_sem]; first | done | omega)) only [go_sem, reduceIte, reduceCtorEq, Nat.reduceAdd, Nat.reduceMul, Nat.reduceSub, Nat.reduceLeDiff, Nat.lt_irrefl, Nat.reduceLT, Nat.reduceEqDiff, Nat.reduceBEq, Int.reduceLE, Int.reduceLT, Int.reduceToNat, w64, eq_self, h.lenm, h.isCell, h.cellsA])
      | (with_reducible refine AW_seq (fun K hK => ?_))
      | ((with_reducible refine AW_nilcmp (id := 1) tyOk rfl rfl rfl rfl rfl rfl Try.underlying22 rfl (by simp) (by first | assumption | exact RdL.app (by assumption) _ | exact RdL_hj rfl (by simp) | exact RdL_h0 rfl (by simp) | exact RdL_nil | exact RdL_emp) (fun b hb => ?_)); simp only [thenA, blockA, List.set_cons_succ, List.set_cons_zero, if_true, if_false, reduceIte])
      | (with_reducible refine AW_region tyOk ?_)
      | (with_reducible refine AOps_cons (fun K hK => ?_))
      | ((with_reducible refine AOps_nil ?_); try simp only [thenA, blockA, if_true, if_false, reduceIte, Nat.reduceEqDiff, reduceCtorEq])
      | (with_reducible refine AW_block ?_)
      | ((first | (with_reducible refine AW_ret ?_) | (with_reducible refine AW_skip ?_) | (with_reducible refine AW_exit ?_)); try simp only [thenA, blockA, if_true, if_false, reduceIte, Nat.reduceEqDiff, reduceCtorEq])
      | ((with_reducible show AW _ _ (.cond _ _ _) _ _ _); refine AW_cond rfl (fun hg => ?_) (fun hg => ?_) <;> first | (exfalso; simp only [reduceCtorEq] at hg; done) | ((try simp only [Bool.not_eq_true', Bool.not_eq_false', decide_eq_true_eq, decide_eq_false_iff_not] at hg); try (exfalso; omega)))
      | ((with_reducible show _ ∧ _); refine And.intro (fun hg => ?_) (fun hg => ?_) <;> (try simp only [Bool.not_eq_true', Bool.not_eq_false'] at hg) <;> simp only [hg] <;> (try simp only [decide_eq_true_eq, decide_eq_false_iff_not] at hg) <;> (try (exfalso; omega)))
      | (clear hK K)
      | fail)
    · first | (refine EndA_rows0 [none] hcl (by first | exact Or.inr rfl | exact Or.inl rfl) (by simp only [Try.results73, resA, aresL, go_sem, reduceIte, reduceCtorEq, Nat.reduceAdd, Nat.reduceMul, Nat.reduceSub, Nat.reduceLeDiff, Nat.lt_irrefl, Nat.reduceLT, Nat.reduceEqDiff, Nat.reduceBEq, Int.reduceLE, Int.reduceLT, Int.reduceToNat, w64, eq_self] <;> rfl) (by decide) ?_ ?_ ⟨rfl, rfl⟩) | (refine EndA_rows [none] hcl (by first | exact Or.inr rfl | exact Or.inl rfl) (by simp only [Try.results73, resA, aresL, go_sem, reduceIte, reduceCtorEq, Nat.reduceAdd, Nat.reduceMul, Nat.reduceSub, Nat.reduceLeDiff, Nat.lt_irrefl, Nat.reduceLT, Nat.reduceEqDiff, Nat.reduceBEq, Int.reduceLE, Int.reduceLT, Int.reduceToNat, w64, eq_self] <;> rfl) (by decide) ?_ ?_ ⟨rfl, rfl⟩)
      rotate_left
      · repeat' (first | exact trivial | apply TdT.tup | apply TdT.one | apply TdL.agg | apply TdL.cell | exact TdB.old _ trivial rfl | exact TdB.virt 0 rfl | exact TdB.junk _ | exact TdB.old _ (by assumption) (by assumption) | refine And.intro ?_ ?_)
      all_goals (repeat' (first | (with_reducible exact RowOk.none) | ((with_reducible apply RowOk.emp); exact rfl) | ((with_reducible apply RowOk.eq); (exact rfl); rotate_left; (first | (with_reducible exact scal_int _ _) | (with_reducible exact scal_flt _ _) | (with_reducible exact scal_bool _) | (intro c hc; cases hc; done) | (simp [LV.isCell, bnd]; done))) | exact trivial | refine And.intro ?_ ?_))
      all_goals (try rfl)
    · refine EndA_rows [some 0] hcl (by first | exact Or.inr rfl | exact Or.inl rfl) (by simp only [Try.results73, resA, aresL, go_sem, reduceIte, reduceCtorEq, Nat.reduceAdd, Nat.reduceMul, Nat.reduceSub, Nat.reduceLeDiff, Nat.lt_irrefl, Nat.reduceLT, Nat.reduceEqDiff, Nat.reduceBEq, Int.reduceLE, Int.reduceLT, Int.reduceToNat, w64, eq_self] <;> rfl) (by decide) ?_ ?_ ⟨rfl, rfl⟩
      rotate_left
      · repeat' (first | exact trivial | apply TdT.tup | apply TdT.one | apply TdL.agg | apply TdL.cell | exact TdB.old _ trivial rfl | exact TdB.own 0 0 _ _ _ _ rfl _ rfl rfl | exact TdB.junk _ | exact TdB.old _ (by assumption) (by assumption) | refine And.intro ?_ ?_)
      all_goals (repeat' (first | (with_reducible exact RowOk.none) | ((with_reducible apply RowOk.emp); exact rfl) | ((with_reducible apply RowOk.eq); (exact rfl); rotate_left; (first | (with_reducible exact scal_int _ _) | (with_reducible exact scal_flt _ _) | (with_reducible exact scal_bool _) | (intro c hc; cases hc; done) | (simp [LV.isCell, bnd]; done))) | exact trivial | refine And.intro ?_ ?_))
      all_goals (try rfl)
  · (refine FunH_body tyOk Try.func73 rfl (by kernel_rfl) Try.ntmps73 (fun hcl hbd => ?_); simp only [List.length_cons, List.length_nil, Nat.reduceAdd, Nat.reduceSub, List.replicate, List.cons_append, List.nil_append])
    repeat' (first
      | ((with_reducible refine hK _ _ ?_); clear hK K)
      | ((first | (with_reducible show AOp _ _ _ _ _ _ _)); simp (disch := first | ((with_reducible show liveO _ _ _ = true); first | assumption | (exact liveO_setS (by assumption)) | (exact PtL.live (by assumption)) | (exact PtL.liveA (by assumption) _) | (simp only [go_sem]; done)) | omega | assumption | rfl | (simp only [go_sem]; first | done | omega)) only [go_sem, reduceIte, reduceCtorEq, Nat.reduceAdd, Nat.reduceMul, Nat.reduceSub, Nat.reduceLeDiff, Nat.lt_irrefl, Nat.reduceLT, Nat.reduceEqDiff, Nat.reduceBEq, Int.reduceLE, Int.reduceLT, Int.reduceToNat, w64, eq_self, h.lenm, h.isCell, h.cellsA])
      | (with_reducible refine AW_seq (fun K hK => ?_))
      | ((with_reducible refine AW_nilcmp (id := 1) tyOk rfl rfl rfl rfl rfl rfl Try.underlying22 rfl (by simp) (by first | assumption | exact RdL.app (by assumption) _ | exact RdL_hj rfl (by simp) | exact RdL_h0 rfl (by simp) | exact RdL_nil | exact RdL_emp) (fun b hb => ?_)); simp only [thenA, blockA, List.set_cons_succ, List.set_cons_zero, if_true, if_false, reduceIte])
      | (with_reducible refine AW_region tyOk ?_)
      | (with_reducible refine AOps_cons (fun K hK => ?_))
      | ((with_reducible refine AOps_nil ?_); try simp only [thenA, blockA, if_true, if_false, reduceIte, Nat.reduceEqDiff, reduceCtorEq])
      | (with_reducible refine AW_block ?_)
      | ((first | (with_reducible refine AW_ret ?_) | (with_reducible refine AW_skip ?_) | (with_reducible refine AW_exit ?_)); try simp only [thenA, blockA, if_true, if_false, reduceIte, Nat.reduceEqDiff, reduceCtorEq])
      | ((with_reducible show AW _ _ (.cond _ _ _) _ _ _); refine AW_cond rfl (fun hg => ?_) (fun hg => ?_) <;> first | (exfalso; simp only [reduceCtorEq] at hg; done) | ((try simp only [Bool.not_eq_true', Bool.not_eq_false', decide_eq_true_eq, decide_eq_false_iff_not] at hg); try (exfalso; omega)))
      | ((with_reducible show _ ∧ _); refine And.intro (fun hg => ?_) (fun hg => ?_) <;> (try simp only [Bool.not_eq_true', Bool.not_eq_false'] at hg) <;> simp only [hg] <;> (try simp only [decide_eq_true_eq, decide_eq_false_iff_not] at hg) <;> (try (exfalso; omega)))
      | (clear hK K)
      | fail)
    · have e : xs = [] := by simpa using hb hg
      subst e
      simp at h0
    · refine EndA_rows [some 0] hcl (by first | exact Or.inr rfl | exact Or.inl rfl) (by simp only [Try.results73, resA, aresL, go_sem, reduceIte, reduceCtorEq, Nat.reduceAdd, Nat.reduceMul, Nat.reduceSub, Nat.reduceLeDiff, Nat.lt_irrefl, Nat.reduceLT, Nat.reduceEqDiff, Nat.reduceBEq, Int.reduceLE, Int.reduceLT, Int.reduceToNat, w64, eq_self] <;> rfl) (by decide) ?_ ?_ ⟨rfl, rfl⟩
      rotate_left
      · repeat' (first | exact trivial | apply TdT.tup | apply TdT.one | apply TdL.agg | apply TdL.cell | exact TdB.old _ trivial rfl | exact TdB.own 0 0 _ _ _ _ rfl _ rfl rfl | exact TdB.junk _ | exact TdB.old _ (by assumption) (by assumption) | refine And.intro ?_ ?_)
      all_goals (repeat' (first | (with_reducible exact RowOk.none) | ((with_reducible apply RowOk.emp); exact rfl) | ((with_reducible apply RowOk.eq); (exact rfl); rotate_left; (first | (with_reducible exact scal_int _ _) | (with_reducible exact scal_flt _ _) | (with_reducible exact scal_bool _) | (intro c hc; cases hc; done) | (simp [LV.isCell, bnd]; done))) | exact trivial | refine And.intro ?_ ?_))
      all_goals (try rfl)
theorem Clone_float32_c (lv : LV) (xs : List (Option Nat)) (H : Hp) (h : RdL H lv (xs.map (LV.flt .f32))) (hn : xs.length ≤ 17592186044416) :
    FunH Try.prog 99 [lv] H fun r H' => r = .sl H.length 0 0 xs.length none ∧ H' = H ++ [⟨0, false, 39, 1, xs.map (LV.flt .f32)⟩] := by
  rcases Nat.eq_zero_or_pos xs.length with h0 | h0
  · have e : xs = [] := List.eq_nil_of_length_eq_zero h0
    subst e
    (refine FunH_body tyOk Try.func99 rfl (by kernel_rfl) Try.ntmps99 (fun hcl hbd => ?_); simp only [List.length_cons, List.length_nil, Nat.reduceAdd, Nat.reduceSub, List.replicate, List.cons_append, List.nil_append])
    repeat' (first
      | ((with_reducible refine hK _ _ ?_); clear hK K)
      | ((first | (with_reducible show AOp _ _ _ _ _ _ _)); simp (disch := first | ((with_reducible show liveO _ _ _ = true); first | assumption | (exact liveO_setS (by assumption)) | (exact PtL.live (by assumption)) | (exact PtL.liveA (by assumption) _) | (simp only [go_sem]; done)) | omega | assumption | rfl | (simp only [go_sem]; first | done | omega)) only [go_sem, reduceIte, reduceCtorEq, Nat.reduceAdd, Nat.reduceMul, Nat.reduceSub, Nat.reduceLeDiff, Nat.lt_irrefl, Nat.reduceLT, Nat.reduceEqDiff, Nat.reduceBEq, Int.reduceLE, Int.reduceLT, Int.reduceToNat, w64, eq_self, h.lenm, h.isCell, h.cellsA])
      | (with_reducible refine AW_seq (fun K hK => ?_))
      | ((with_reducible refine AW_nilcmp (id := 1) tyOk rfl rfl rfl rfl rfl rfl Try.underlying38 rfl (by simp) (by first | assumption | exact RdL.app (by assumption) _ | exact RdL_hj rfl (by simp) | exact RdL_h0 rfl (by simp) | exact RdL_nil | exact RdL_emp) (fun b hb => ?_)); simp only [thenA, blockA, List.set_cons_succ, List.set_cons_zero, if_true, if_false, reduceIte])
      | (with_reducible refine AW_region tyOk ?_)
      | (with_reducible refine AOps_cons (fun K hK => ?_))
      | ((with_reducible refine AOps_nil ?_); try simp only [thenA, blockA, if_true, if_false, reduceIte, Nat.reduceEqDiff, reduceCtorEq])
      | (with_reducible refine AW_block ?_)
      | ((first | (with_reducible refine AW_ret ?_) | (with_reducible refine AW_skip ?_) | (with_reducible refine AW_exit ?_)); try simp only [thenA, blockA, if_true, if_false, reduceIte, Nat.reduceEqDiff, reduceCtorEq])
      | ((with_reducible show AW _ _ (.cond _ _ _) _ _ _); refine AW_cond rfl (fun hg => ?_) (fun hg => ?_) <;> first | (exfalso; simp only [reduceCtorEq] at hg; done) | ((try simp only [Bool.not_eq_true', Bool.not_eq_false', decide_eq_true_eq, decide_eq_false_iff_not] at hg); try (exfalso; omega)))
      | ((with_reducible show _ ∧ _); refine And.intro (fun hg => ?_) (fun hg => ?_) <;> (try simp only [Bool.not_eq_true', Bool.not_eq_false'] at hg) <;> simp only [hg] <;> (try simp only [decide_eq_true_eq, decide_eq_false_iff_not] at hg) <;> (try (exfalso; omega)))
      | (clear hK K)
      | fail)
    · first | (refine EndA_rows0 [none] hcl (by first | exact Or.inr rfl | exact Or.inl rfl) (by simp only [Try.results99, resA, aresL, go_sem, reduceIte, reduceCtorEq, Nat.reduceAdd, Nat.reduceMul, Nat.reduceSub, Nat.reduceLeDiff, Nat.lt_irrefl, Nat.reduceLT, Nat.reduceEqDiff, Nat.reduceBEq, Int.reduceLE, Int.reduceLT, Int.reduceToNat, w64, eq_self] <;> rfl) (by decide) ?_ ?_ ⟨rfl, rfl⟩) | (refine EndA_rows [none] hcl (by first | exact Or.inr rfl | exact Or.inl rfl) (by simp only [Try.results99, resA, aresL, go_sem, reduceIte, reduceCtorEq, Nat.reduceAdd, Nat.reduceMul, Nat.reduceSub, Nat.reduceLeDiff, Nat.lt_irrefl, Nat.reduceLT, Nat.reduceEqDiff, Nat.reduceBEq, Int.reduceLE, Int.reduceLT, Int.reduceToNat, w64, eq_self] <;> rfl) (by decide) ?_ ?_ ⟨rfl, rfl⟩)
      rotate_left
      · repeat' (first | exact trivial | apply TdT.tup | apply TdT.one | apply TdL.agg | apply TdL.cell | exact TdB.old _ trivial rfl | exact TdB.virt 0 rfl | exact TdB.junk _ | exact TdB.old _ (by assumption) (by assumption) | refine And.intro ?_ ?_)
      all_goals (repeat' (first | (with_reducible exact RowOk.none) | ((with_reducible apply RowOk.emp); exact rfl) | ((with_reducible apply RowOk.eq); (exact rfl); rotate_left; (first | (with_reducible exact scal_int _ _) | (with_reducible exact scal_flt _ _) | (with_reducible exact scal_bool _) | (intro c hc; cases hc; done) | (simp [LV.isCell, bnd]; done))) | exact trivial | refine And.intro ?_ ?_))
      all_goals (try rfl)
    · refine EndA_rows [some 0] hcl (by first | exact Or.inr rfl | exact Or.inl rfl) (by simp only [Try.results99, resA, aresL, go_sem, reduceIte, reduceCtorEq, Nat.reduceAdd, Nat.reduceMul, Nat.reduceSub, Nat.reduceLeDiff, Nat.lt_irrefl, Nat.reduceLT, Nat.reduceEqDiff, Nat.reduceBEq, Int.reduceLE, Int.reduceLT, Int.reduceToNat, w64, eq_self] <;> rfl) (by decide) ?_ ?_ ⟨rfl, rfl⟩
      rotate_left
      · repeat' (first | exact trivial | apply TdT.tup | apply TdT.one | apply TdL.agg | apply TdL.cell | exact TdB.old _ trivial rfl | exact TdB.own 0 0 _ _ _ _ rfl _ rfl rfl | exact TdB.junk _ | exact TdB.old _ (by assumption) (by assumption) | refine And.intro ?_ ?_)
      all_goals (repeat' (first | (with_reducible exact RowOk.none) | ((with_reducible apply RowOk.emp); exact rfl) | ((with_reducible apply RowOk.eq); (exact rfl); rotate_left; (first | (with_reducible exact scal_int _ _) | (with_reducible exact scal_flt _ _) | (with_reducible exact scal_bool _) | (intro c hc; cases hc; done) | (simp [LV.isCell, bnd]; done))) | exact trivial | refine And.intro ?_ ?_))
      all_goals (try rfl)
  · (refine FunH_body tyOk Try.func99 rfl (by kernel_rfl) Try.ntmps99 (fun hcl hbd => ?_); simp only [List.length_cons, List.length_nil, Nat.reduceAdd, Nat.reduceSub, List.replicate, List.cons_append, List.nil_append])
    repeat' (first
      | ((with_reducible refine hK _ _ ?_); clear hK K)
      | ((first | (with_reducible show AOp _ _ _ _ _ _ _)); simp (disch := first | ((with_reducible show liveO _ _ _ = true); first | assumption | (exact liveO_setS (by assumption)) | (exact PtL.live (by assumption)) | (exact PtL.liveA (by assumption) _) | (simp only [go_sem]; done)) | omega | assumption | rfl | (simp only [go_sem]; first | done | omega)) only [go_sem, reduceIte, reduceCtorEq, Nat.reduceAdd, Nat.reduceMul, Nat.reduceSub, Nat.reduceLeDiff, Nat.lt_irrefl, Nat.reduceLT, Nat.reduceEqDiff, Nat.reduceBEq, Int.reduceLE, Int.reduceLT, Int.reduceToNat, w64, eq_self, h.lenm, h.isCell, h.cellsA])
      | (with_reducible refine AW_seq (fun K hK => ?_))
      | ((with_reducible refine AW_nilcmp (id := 1) tyOk rfl rfl rfl rfl rfl rfl Try.underlying38 rfl (by simp) (by first | assumption | exact RdL.app (by assumption) _ | exact RdL_hj rfl (by simp) | exact RdL_h0 rfl (by simp) | exact RdL_nil | exact RdL_emp) (fun b hb => ?_)); simp only [thenA, blockA, List.set_cons_succ, List.set_cons_zero, if_true, if_false, reduceIte])
      | (with_reducible refine AW_region tyOk ?_)
      | (with_reducible refine AOps_cons (fun K hK => ?_))
      | ((with_reducible refine AOps_nil ?_); try simp only [thenA, blockA, if_true, if_false, reduceIte, Nat.reduceEqDiff, reduceCtorEq])
      | (with_reducible refine AW_block ?_)
      | ((first | (with_reducible refine AW_ret ?_) | (with_reducible refine AW_skip ?_) | (with_reducible refine AW_exit ?_)); try simp only [thenA, blockA, if_true, if_false, reduceIte, Nat.reduceEqDiff, reduceCtorEq])
      | ((with_reducible show AW _ _ (.cond _ _ _) _ _ _); refine AW_cond rfl (fun hg => ?_) (fun hg => ?_) <;> first | (exfalso; simp only [reduceCtorEq] at hg; done) | ((try simp only [Bool.not_eq_true', Bool.not_eq_false', decide_eq_true_eq, decide_eq_false_iff_not] at hg); try (exfalso; omega)))
      | ((with_reducible show _ ∧ _); refine And.intro (fun hg => ?_) (fun hg => ?_) <;> (try simp only [Bool.not_eq_true', Bool.not_eq_false'] at hg) <;> simp only [hg] <;> (try simp only [decide_eq_true_eq, decide_eq_false_iff_not] at hg) <;> (try (exfalso; omega)))
      | (clear hK K)
      | fail)
    · have e : xs = [] := by simpa using hb hg
      subst e
      simp at h0
    · refine EndA_rows [some 0] hcl (by first | exact Or.inr rfl | exact Or.inl rfl) (by simp only [Try.results99, resA, aresL, go_sem, reduceIte, reduceCtorEq, Nat.reduceAdd, Nat.reduceMul, Nat.reduceSub, Nat.reduceLeDiff, Nat.lt_irrefl, Nat.reduceLT, Nat.reduceEqDiff, Nat.reduceBEq, Int.reduceLE, Int.reduceLT, Int.reduceToNat, w64, eq_self] <;> rfl) (by decide) ?_ ?_ ⟨rfl, rfl⟩
      rotate_left
      · repeat' (first | exact trivial | apply TdT.tup | apply TdT.one | apply TdL.agg | apply TdL.cell | exact TdB.old _ trivial rfl | exact TdB.own 0 0 _ _ _ _ rfl _ rfl rfl | exact TdB.junk _ | exact TdB.old _ (by assumption) (by assumption) | refine And.intro ?_ ?_)
      all_goals (repeat' (first | (with_reducible exact RowOk.none) | ((with_reducible apply RowOk.emp); exact rfl) | ((with_reducible apply RowOk.eq); (exact rfl); rotate_left; (first | (with_reducible exact scal_int _ _) | (with_reducible exact scal_flt _ _) | (with_reducible exact scal_bool _) | (intro c hc; cases hc; done) | (simp [LV.isCell, bnd]; done))) | exact trivial | refine And.intro ?_ ?_))
      all_goals (try rfl)
end Go.Proofs.Ytfofkebkcjkjeaa
