/- PeelCells in the abstract machine: the program's side. -/
import Derived.Test.YthcbbnigpkkkiaaQe
namespace Go.Proofs.Ythcbbnigpkkkiaa
open Go.RowKit
set_option linter.unusedSimpArgs false
set_option linter.unusedVariables false
set_option maxRecDepth 100000

set_option maxHeartbeats 8000000 in
theorem iPeelCells_c (lv : LV) (ks : List Int) (n s : Int) (H : Hp) (h : RdL H lv (ks.map (LV.int .i64))) (hn : ks.length ≤ 1048576) :
    FunH Try.prog 11 [lv, .int .i64 n, .int .i64 s] H fun r H' => r = .tup [.sl H.length 0 0 (pcL ks n s).length none, .bool (pcOk ks n s)] ∧ H' = H ++ [⟨0, false, 2, 1, (pcL ks n s).map (LV.int .i64)⟩] := by
  unfold pcL pcOk pcR
  cases hv : pcV ks n s
  · simp only [Bool.false_eq_true, if_false, reduceIte]
    unfold pcV at hv
    cases e1 : keysB ks
    · (refine FunH_body tyOk Try.func11 rfl (by kernel_rfl) Try.ntmps11 (fun hcl hbd => ?_); simp only [List.length_cons, List.length_nil, Nat.reduceAdd, Nat.reduceSub, List.replicate, List.cons_append, List.nil_append])
      repeat' (first
 | ((with_reducible refine hK _ _ ?_); clear hK K)
 | ((first | (with_reducible show AOp _ _ _ _ _ _ _)); simp (disch := first | ((with_reducible show liveO _ _ _ = true); first | assumption | (exact hS.lvA) | (exact hS.lvAA _) | (exact aSl _ _) | (exact hS.ls.lvA) | (exact hS.ls.lvAA _) | (exact hl1) | (exact aS1 _) | (exact liveO_setS (by assumption)) | (exact PtL.live (by assumption)) | (exact PtL.liveA (by assumption) _) | (simp only [go_sem]; done)) | omega | assumption | rfl | (simp only [go_sem]; first | done | omega)) only [go_sem, reduceIte, reduceCtorEq, Nat.reduceAdd, Nat.reduceMul, Nat.reduceSub, Nat.reduceLeDiff, Nat.lt_irrefl, Nat.reduceLT, Nat.reduceEqDiff, Nat.reduceBEq, Int.reduceLE, Int.reduceLT, Int.reduceToNat, w64, eq_self, h.lenm, e1])
 | (with_reducible refine AW_seq (fun K hK => ?_))
 | (with_reducible refine AW_region tyOk ?_)
 | (with_reducible refine AOps_cons (fun K hK => ?_))
 | ((with_reducible refine AOps_nil ?_); try simp only [thenA, blockA, if_true, if_false, reduceIte, Nat.reduceEqDiff, reduceCtorEq])
 | (with_reducible refine AW_block ?_)
 | ((first | (with_reducible refine AW_ret ?_) | (with_reducible refine AW_skip ?_) | (with_reducible refine AW_exit ?_)); try simp only [thenA, blockA, if_true, if_false, reduceIte, Nat.reduceEqDiff, reduceCtorEq])
 | ((with_reducible show AW _ _ (.cond _ _ _) _ _ _); refine AW_cond rfl (fun hg => ?_) (fun hg => ?_) <;> first | (exfalso; simp only [reduceCtorEq] at hg; done) | ((try simp only [Bool.not_eq_true', Bool.not_eq_false', decide_eq_true_eq, decide_eq_false_iff_not] at hg); try (exfalso; omega)))
 | ((with_reducible show _ ∧ _); refine And.intro (fun hg => ?_) (fun hg => ?_) <;> (try simp only [Bool.not_eq_true', Bool.not_eq_false'] at hg) <;> simp only [hg] <;> (try simp only [decide_eq_true_eq, decide_eq_false_iff_not] at hg) <;> (try (exfalso; omega)))
 | ((with_reducible apply FunH_intro); (first | exact IsKey_c _ _ | exact AreKeys_c _ _ _ (by first | assumption | exact RdL.app (by assumption) _ | exact RdL_hj rfl (by simp) | exact RdL_h0 rfl (by simp) | exact RdL_nil | exact RdL_emp) (by first | assumption | omega | (simp; omega) | (simp; done)) | exact areDifferent_c _ _ _ (by first | assumption | exact RdL.app (by assumption) _ | exact RdL_hj rfl (by simp) | exact RdL_h0 rfl (by simp) | exact RdL_nil | exact RdL_emp) (by first | assumption | omega | (simp; omega) | (simp; done)) | exact within_c _ _ _ _ | exact peelPlaces_c _ _ _ (by first | assumption | omega | (simp; omega) | (simp; done)) (by first | assumption | omega | (simp; omega) | (simp; done)) (by first | assumption | omega | (simp; omega) | (simp; done)) _ | exact IndexFunc_is_c _ _ _ _ _ _ _ (by first | assumption | exact RdL.app (by assumption) _ | exact RdL_hj rfl (by simp) | exact RdL_h0 rfl (by simp) | exact RdL_nil | exact RdL_emp) (by first | assumption | exact RdL.app (by assumption) _ | exact RdL_hj rfl (by simp) | exact RdL_h0 rfl (by simp) | exact RdL_nil | exact RdL_emp) (by first | assumption | (simp; done)) (by first | assumption | omega | (simp; omega) | (simp; done)) | exact PeelOne_c _ _ _ (by first | assumption | exact RdL.app (by assumption) _ | exact RdL_hj rfl (by simp) | exact RdL_h0 rfl (by simp) | exact RdL_nil | exact RdL_emp) (by first | assumption | omega | (simp; omega) | (simp; done)) | exact DeleteFunc_int64_c _ _ _ _ _ _ _ _ _ (by first | assumption | exact (hp_getj _ _ _).trans rfl | exact (hp_get0 _ _).trans rfl) (by first | rfl | assumption | omega | (simp; done)) (by first | assumption | omega | (simp; omega) | (simp; done)) (by first | assumption | (simp; done)) | exact PeelKey_c _ _ _ _ _ (by first | assumption | exact PtL.app (by assumption) _ | exact PtL_h0 rfl | exact PtL_hj rfl)))
 | (clear hK K)
        | fail)
      first | (refine EndA_rows0 [none] hcl (by first | exact Or.inr rfl | exact Or.inl rfl) (by simp only [Try.results11, resA, aresL, go_sem, reduceIte, reduceCtorEq, Nat.reduceAdd, Nat.reduceMul, Nat.reduceSub, Nat.reduceLeDiff, Nat.lt_irrefl, Nat.reduceLT, Nat.reduceEqDiff, Nat.reduceBEq, Int.reduceLE, Int.reduceLT, Int.reduceToNat, w64, eq_self] <;> rfl) (by decide) ?_ ?_ ⟨rfl, rfl⟩) | (refine EndA_rows [none] hcl (by first | exact Or.inr rfl | exact Or.inl rfl) (by simp only [Try.results11, resA, aresL, go_sem, reduceIte, reduceCtorEq, Nat.reduceAdd, Nat.reduceMul, Nat.reduceSub, Nat.reduceLeDiff, Nat.lt_irrefl, Nat.reduceLT, Nat.reduceEqDiff, Nat.reduceBEq, Int.reduceLE, Int.reduceLT, Int.reduceToNat, w64, eq_self] <;> rfl) (by decide) ?_ ?_ ⟨rfl, rfl⟩)
      rotate_left
      · repeat' (first | exact trivial | apply TdT.tup | apply TdT.one | apply TdL.agg | apply TdL.cell | exact TdB.old _ trivial rfl | exact TdB.virt 0 rfl | exact TdB.junk _ | exact TdB.old _ (by assumption) (by assumption) | refine And.intro ?_ ?_)
      all_goals (repeat' (first | (with_reducible exact RowOk.none) | ((with_reducible apply RowOk.emp); exact rfl) | ((with_reducible apply RowOk.eq); (exact rfl); rotate_left; (first | (with_reducible exact scal_int _ _) | (with_reducible exact scal_flt _ _) | (with_reducible exact scal_bool _) | (intro c hc; cases hc; done) | (simp [LV.isCell, bnd]; done))) | exact trivial | refine And.intro ?_ ?_))
      all_goals (try rfl)
    cases e2 : difB ks
    · (refine FunH_body tyOk Try.func11 rfl (by kernel_rfl) Try.ntmps11 (fun hcl hbd => ?_); simp only [List.length_cons, List.length_nil, Nat.reduceAdd, Nat.reduceSub, List.replicate, List.cons_append, List.nil_append])
      repeat' (first
 | ((with_reducible refine hK _ _ ?_); clear hK K)
 | ((first | (with_reducible show AOp _ _ _ _ _ _ _)); simp (disch := first | ((with_reducible show liveO _ _ _ = true); first | assumption | (exact hS.lvA) | (exact hS.lvAA _) | (exact aSl _ _) | (exact hS.ls.lvA) | (exact hS.ls.lvAA _) | (exact hl1) | (exact aS1 _) | (exact liveO_setS (by assumption)) | (exact PtL.live (by assumption)) | (exact PtL.liveA (by assumption) _) | (simp only [go_sem]; done)) | omega | assumption | rfl | (simp only [go_sem]; first | done | omega)) only [go_sem, reduceIte, reduceCtorEq, Nat.reduceAdd, Nat.reduceMul, Nat.reduceSub, Nat.reduceLeDiff, Nat.lt_irrefl, Nat.reduceLT, Nat.reduceEqDiff, Nat.reduceBEq, Int.reduceLE, Int.reduceLT, Int.reduceToNat, w64, eq_self, h.lenm, e1, e2])
 | (with_reducible refine AW_seq (fun K hK => ?_))
 | (with_reducible refine AW_region tyOk ?_)
 | (with_reducible refine AOps_cons (fun K hK => ?_))
 | ((with_reducible refine AOps_nil ?_); try simp only [thenA, blockA, if_true, if_false, reduceIte, Nat.reduceEqDiff, reduceCtorEq])
 | (with_reducible refine AW_block ?_)
 | ((first | (with_reducible refine AW_ret ?_) | (with_reducible refine AW_skip ?_) | (with_reducible refine AW_exit ?_)); try simp only [thenA, blockA, if_true, if_false, reduceIte, Nat.reduceEqDiff, reduceCtorEq])
 | ((with_reducible show AW _ _ (.cond _ _ _) _ _ _); refine AW_cond rfl (fun hg => ?_) (fun hg => ?_) <;> first | (exfalso; simp only [reduceCtorEq] at hg; done) | ((try simp only [Bool.not_eq_true', Bool.not_eq_false', decide_eq_true_eq, decide_eq_false_iff_not] at hg); try (exfalso; omega)))
 | ((with_reducible show _ ∧ _); refine And.intro (fun hg => ?_) (fun hg => ?_) <;> (try simp only [Bool.not_eq_true', Bool.not_eq_false'] at hg) <;> simp only [hg] <;> (try simp only [decide_eq_true_eq, decide_eq_false_iff_not] at hg) <;> (try (exfalso; omega)))
 | ((with_reducible apply FunH_intro); (first | exact IsKey_c _ _ | exact AreKeys_c _ _ _ (by first | assumption | exact RdL.app (by assumption) _ | exact RdL_hj rfl (by simp) | exact RdL_h0 rfl (by simp) | exact RdL_nil | exact RdL_emp) (by first | assumption | omega | (simp; omega) | (simp; done)) | exact areDifferent_c _ _ _ (by first | assumption | exact RdL.app (by assumption) _ | exact RdL_hj rfl (by simp) | exact RdL_h0 rfl (by simp) | exact RdL_nil | exact RdL_emp) (by first | assumption | omega | (simp; omega) | (simp; done)) | exact within_c _ _ _ _ | exact peelPlaces_c _ _ _ (by first | assumption | omega | (simp; omega) | (simp; done)) (by first | assumption | omega | (simp; omega) | (simp; done)) (by first | assumption | omega | (simp; omega) | (simp; done)) _ | exact IndexFunc_is_c _ _ _ _ _ _ _ (by first | assumption | exact RdL.app (by assumption) _ | exact RdL_hj rfl (by simp) | exact RdL_h0 rfl (by simp) | exact RdL_nil | exact RdL_emp) (by first | assumption | exact RdL.app (by assumption) _ | exact RdL_hj rfl (by simp) | exact RdL_h0 rfl (by simp) | exact RdL_nil | exact RdL_emp) (by first | assumption | (simp; done)) (by first | assumption | omega | (simp; omega) | (simp; done)) | exact PeelOne_c _ _ _ (by first | assumption | exact RdL.app (by assumption) _ | exact RdL_hj rfl (by simp) | exact RdL_h0 rfl (by simp) | exact RdL_nil | exact RdL_emp) (by first | assumption | omega | (simp; omega) | (simp; done)) | exact DeleteFunc_int64_c _ _ _ _ _ _ _ _ _ (by first | assumption | exact (hp_getj _ _ _).trans rfl | exact (hp_get0 _ _).trans rfl) (by first | rfl | assumption | omega | (simp; done)) (by first | assumption | omega | (simp; omega) | (simp; done)) (by first | assumption | (simp; done)) | exact PeelKey_c _ _ _ _ _ (by first | assumption | exact PtL.app (by assumption) _ | exact PtL_h0 rfl | exact PtL_hj rfl)))
 | (clear hK K)
        | fail)
      first | (refine EndA_rows0 [none] hcl (by first | exact Or.inr rfl | exact Or.inl rfl) (by simp only [Try.results11, resA, aresL, go_sem, reduceIte, reduceCtorEq, Nat.reduceAdd, Nat.reduceMul, Nat.reduceSub, Nat.reduceLeDiff, Nat.lt_irrefl, Nat.reduceLT, Nat.reduceEqDiff, Nat.reduceBEq, Int.reduceLE, Int.reduceLT, Int.reduceToNat, w64, eq_self] <;> rfl) (by decide) ?_ ?_ ⟨rfl, rfl⟩) | (refine EndA_rows [none] hcl (by first | exact Or.inr rfl | exact Or.inl rfl) (by simp only [Try.results11, resA, aresL, go_sem, reduceIte, reduceCtorEq, Nat.reduceAdd, Nat.reduceMul, Nat.reduceSub, Nat.reduceLeDiff, Nat.lt_irrefl, Nat.reduceLT, Nat.reduceEqDiff, Nat.reduceBEq, Int.reduceLE, Int.reduceLT, Int.reduceToNat, w64, eq_self] <;> rfl) (by decide) ?_ ?_ ⟨rfl, rfl⟩)
      rotate_left
      · repeat' (first | exact trivial | apply TdT.tup | apply TdT.one | apply TdL.agg | apply TdL.cell | exact TdB.old _ trivial rfl | exact TdB.virt 0 rfl | exact TdB.junk _ | exact TdB.old _ (by assumption) (by assumption) | refine And.intro ?_ ?_)
      all_goals (repeat' (first | (with_reducible exact RowOk.none) | ((with_reducible apply RowOk.emp); exact rfl) | ((with_reducible apply RowOk.eq); (exact rfl); rotate_left; (first | (with_reducible exact scal_int _ _) | (with_reducible exact scal_flt _ _) | (with_reducible exact scal_bool _) | (intro c hc; cases hc; done) | (simp [LV.isCell, bnd]; done))) | exact trivial | refine And.intro ?_ ?_))
      all_goals (try rfl)
    cases e3 : inB n 1 128
    · (refine FunH_body tyOk Try.func11 rfl (by kernel_rfl) Try.ntmps11 (fun hcl hbd => ?_); simp only [List.length_cons, List.length_nil, Nat.reduceAdd, Nat.reduceSub, List.replicate, List.cons_append, List.nil_append])
      repeat' (first
 | ((with_reducible refine hK _ _ ?_); clear hK K)
 | ((first | (with_reducible show AOp _ _ _ _ _ _ _)); simp (disch := first | ((with_reducible show liveO _ _ _ = true); first | assumption | (exact hS.lvA) | (exact hS.lvAA _) | (exact aSl _ _) | (exact hS.ls.lvA) | (exact hS.ls.lvAA _) | (exact hl1) | (exact aS1 _) | (exact liveO_setS (by assumption)) | (exact PtL.live (by assumption)) | (exact PtL.liveA (by assumption) _) | (simp only [go_sem]; done)) | omega | assumption | rfl | (simp only [go_sem]; first | done | omega)) only [go_sem, reduceIte, reduceCtorEq, Nat.reduceAdd, Nat.reduceMul, Nat.reduceSub, Nat.reduceLeDiff, Nat.lt_irrefl, Nat.reduceLT, Nat.reduceEqDiff, Nat.reduceBEq, Int.reduceLE, Int.reduceLT, Int.reduceToNat, w64, eq_self, h.lenm, e1, e2, e3])
 | (with_reducible refine AW_seq (fun K hK => ?_))
 | (with_reducible refine AW_region tyOk ?_)
 | (with_reducible refine AOps_cons (fun K hK => ?_))
 | ((with_reducible refine AOps_nil ?_); try simp only [thenA, blockA, if_true, if_false, reduceIte, Nat.reduceEqDiff, reduceCtorEq])
 | (with_reducible refine AW_block ?_)
 | ((first | (with_reducible refine AW_ret ?_) | (with_reducible refine AW_skip ?_) | (with_reducible refine AW_exit ?_)); try simp only [thenA, blockA, if_true, if_false, reduceIte, Nat.reduceEqDiff, reduceCtorEq])
 | ((with_reducible show AW _ _ (.cond _ _ _) _ _ _); refine AW_cond rfl (fun hg => ?_) (fun hg => ?_) <;> first | (exfalso; simp only [reduceCtorEq] at hg; done) | ((try simp only [Bool.not_eq_true', Bool.not_eq_false', decide_eq_true_eq, decide_eq_false_iff_not] at hg); try (exfalso; omega)))
 | ((with_reducible show _ ∧ _); refine And.intro (fun hg => ?_) (fun hg => ?_) <;> (try simp only [Bool.not_eq_true', Bool.not_eq_false'] at hg) <;> simp only [hg] <;> (try simp only [decide_eq_true_eq, decide_eq_false_iff_not] at hg) <;> (try (exfalso; omega)))
 | ((with_reducible apply FunH_intro); (first | exact IsKey_c _ _ | exact AreKeys_c _ _ _ (by first | assumption | exact RdL.app (by assumption) _ | exact RdL_hj rfl (by simp) | exact RdL_h0 rfl (by simp) | exact RdL_nil | exact RdL_emp) (by first | assumption | omega | (simp; omega) | (simp; done)) | exact areDifferent_c _ _ _ (by first | assumption | exact RdL.app (by assumption) _ | exact RdL_hj rfl (by simp) | exact RdL_h0 rfl (by simp) | exact RdL_nil | exact RdL_emp) (by first | assumption | omega | (simp; omega) | (simp; done)) | exact within_c _ _ _ _ | exact peelPlaces_c _ _ _ (by first | assumption | omega | (simp; omega) | (simp; done)) (by first | assumption | omega | (simp; omega) | (simp; done)) (by first | assumption | omega | (simp; omega) | (simp; done)) _ | exact IndexFunc_is_c _ _ _ _ _ _ _ (by first | assumption | exact RdL.app (by assumption) _ | exact RdL_hj rfl (by simp) | exact RdL_h0 rfl (by simp) | exact RdL_nil | exact RdL_emp) (by first | assumption | exact RdL.app (by assumption) _ | exact RdL_hj rfl (by simp) | exact RdL_h0 rfl (by simp) | exact RdL_nil | exact RdL_emp) (by first | assumption | (simp; done)) (by first | assumption | omega | (simp; omega) | (simp; done)) | exact PeelOne_c _ _ _ (by first | assumption | exact RdL.app (by assumption) _ | exact RdL_hj rfl (by simp) | exact RdL_h0 rfl (by simp) | exact RdL_nil | exact RdL_emp) (by first | assumption | omega | (simp; omega) | (simp; done)) | exact DeleteFunc_int64_c _ _ _ _ _ _ _ _ _ (by first | assumption | exact (hp_getj _ _ _).trans rfl | exact (hp_get0 _ _).trans rfl) (by first | rfl | assumption | omega | (simp; done)) (by first | assumption | omega | (simp; omega) | (simp; done)) (by first | assumption | (simp; done)) | exact PeelKey_c _ _ _ _ _ (by first | assumption | exact PtL.app (by assumption) _ | exact PtL_h0 rfl | exact PtL_hj rfl)))
 | (clear hK K)
        | fail)
      first | (refine EndA_rows0 [none] hcl (by first | exact Or.inr rfl | exact Or.inl rfl) (by simp only [Try.results11, resA, aresL, go_sem, reduceIte, reduceCtorEq, Nat.reduceAdd, Nat.reduceMul, Nat.reduceSub, Nat.reduceLeDiff, Nat.lt_irrefl, Nat.reduceLT, Nat.reduceEqDiff, Nat.reduceBEq, Int.reduceLE, Int.reduceLT, Int.reduceToNat, w64, eq_self] <;> rfl) (by decide) ?_ ?_ ⟨rfl, rfl⟩) | (refine EndA_rows [none] hcl (by first | exact Or.inr rfl | exact Or.inl rfl) (by simp only [Try.results11, resA, aresL, go_sem, reduceIte, reduceCtorEq, Nat.reduceAdd, Nat.reduceMul, Nat.reduceSub, Nat.reduceLeDiff, Nat.lt_irrefl, Nat.reduceLT, Nat.reduceEqDiff, Nat.reduceBEq, Int.reduceLE, Int.reduceLT, Int.reduceToNat, w64, eq_self] <;> rfl) (by decide) ?_ ?_ ⟨rfl, rfl⟩)
      rotate_left
      · repeat' (first | exact trivial | apply TdT.tup | apply TdT.one | apply TdL.agg | apply TdL.cell | exact TdB.old _ trivial rfl | exact TdB.virt 0 rfl | exact TdB.junk _ | exact TdB.old _ (by assumption) (by assumption) | refine And.intro ?_ ?_)
      all_goals (repeat' (first | (with_reducible exact RowOk.none) | ((with_reducible apply RowOk.emp); exact rfl) | ((with_reducible apply RowOk.eq); (exact rfl); rotate_left; (first | (with_reducible exact scal_int _ _) | (with_reducible exact scal_flt _ _) | (with_reducible exact scal_bool _) | (intro c hc; cases hc; done) | (simp [LV.isCell, bnd]; done))) | exact trivial | refine And.intro ?_ ?_))
      all_goals (try rfl)
    have e4 : keyB s = false := by rw [e1, e2, e3] at hv; simpa using hv
    (refine FunH_body tyOk Try.func11 rfl (by kernel_rfl) Try.ntmps11 (fun hcl hbd => ?_); simp only [List.length_cons, List.length_nil, Nat.reduceAdd, Nat.reduceSub, List.replicate, List.cons_append, List.nil_append])
    repeat' (first
 | ((with_reducible refine hK _ _ ?_); clear hK K)
 | ((first | (with_reducible show AOp _ _ _ _ _ _ _)); simp (disch := first | ((with_reducible show liveO _ _ _ = true); first | assumption | (exact hS.lvA) | (exact hS.lvAA _) | (exact aSl _ _) | (exact hS.ls.lvA) | (exact hS.ls.lvAA _) | (exact hl1) | (exact aS1 _) | (exact liveO_setS (by assumption)) | (exact PtL.live (by assumption)) | (exact PtL.liveA (by assumption) _) | (simp only [go_sem]; done)) | omega | assumption | rfl | (simp only [go_sem]; first | done | omega)) only [go_sem, reduceIte, reduceCtorEq, Nat.reduceAdd, Nat.reduceMul, Nat.reduceSub, Nat.reduceLeDiff, Nat.lt_irrefl, Nat.reduceLT, Nat.reduceEqDiff, Nat.reduceBEq, Int.reduceLE, Int.reduceLT, Int.reduceToNat, w64, eq_self, h.lenm, e1, e2, e3, e4])
 | (with_reducible refine AW_seq (fun K hK => ?_))
 | (with_reducible refine AW_region tyOk ?_)
 | (with_reducible refine AOps_cons (fun K hK => ?_))
 | ((with_reducible refine AOps_nil ?_); try simp only [thenA, blockA, if_true, if_false, reduceIte, Nat.reduceEqDiff, reduceCtorEq])
 | (with_reducible refine AW_block ?_)
 | ((first | (with_reducible refine AW_ret ?_) | (with_reducible refine AW_skip ?_) | (with_reducible refine AW_exit ?_)); try simp only [thenA, blockA, if_true, if_false, reduceIte, Nat.reduceEqDiff, reduceCtorEq])
 | ((with_reducible show AW _ _ (.cond _ _ _) _ _ _); refine AW_cond rfl (fun hg => ?_) (fun hg => ?_) <;> first | (exfalso; simp only [reduceCtorEq] at hg; done) | ((try simp only [Bool.not_eq_true', Bool.not_eq_false', decide_eq_true_eq, decide_eq_false_iff_not] at hg); try (exfalso; omega)))
 | ((with_reducible show _ ∧ _); refine And.intro (fun hg => ?_) (fun hg => ?_) <;> (try simp only [Bool.not_eq_true', Bool.not_eq_false'] at hg) <;> simp only [hg] <;> (try simp only [decide_eq_true_eq, decide_eq_false_iff_not] at hg) <;> (try (exfalso; omega)))
 | ((with_reducible apply FunH_intro); (first | exact IsKey_c _ _ | exact AreKeys_c _ _ _ (by first | assumption | exact RdL.app (by assumption) _ | exact RdL_hj rfl (by simp) | exact RdL_h0 rfl (by simp) | exact RdL_nil | exact RdL_emp) (by first | assumption | omega | (simp; omega) | (simp; done)) | exact areDifferent_c _ _ _ (by first | assumption | exact RdL.app (by assumption) _ | exact RdL_hj rfl (by simp) | exact RdL_h0 rfl (by simp) | exact RdL_nil | exact RdL_emp) (by first | assumption | omega | (simp; omega) | (simp; done)) | exact within_c _ _ _ _ | exact peelPlaces_c _ _ _ (by first | assumption | omega | (simp; omega) | (simp; done)) (by first | assumption | omega | (simp; omega) | (simp; done)) (by first | assumption | omega | (simp; omega) | (simp; done)) _ | exact IndexFunc_is_c _ _ _ _ _ _ _ (by first | assumption | exact RdL.app (by assumption) _ | exact RdL_hj rfl (by simp) | exact RdL_h0 rfl (by simp) | exact RdL_nil | exact RdL_emp) (by first | assumption | exact RdL.app (by assumption) _ | exact RdL_hj rfl (by simp) | exact RdL_h0 rfl (by simp) | exact RdL_nil | exact RdL_emp) (by first | assumption | (simp; done)) (by first | assumption | omega | (simp; omega) | (simp; done)) | exact PeelOne_c _ _ _ (by first | assumption | exact RdL.app (by assumption) _ | exact RdL_hj rfl (by simp) | exact RdL_h0 rfl (by simp) | exact RdL_nil | exact RdL_emp) (by first | assumption | omega | (simp; omega) | (simp; done)) | exact DeleteFunc_int64_c _ _ _ _ _ _ _ _ _ (by first | assumption | exact (hp_getj _ _ _).trans rfl | exact (hp_get0 _ _).trans rfl) (by first | rfl | assumption | omega | (simp; done)) (by first | assumption | omega | (simp; omega) | (simp; done)) (by first | assumption | (simp; done)) | exact PeelKey_c _ _ _ _ _ (by first | assumption | exact PtL.app (by assumption) _ | exact PtL_h0 rfl | exact PtL_hj rfl)))
 | (clear hK K)
      | fail)
    first | (refine EndA_rows0 [none] hcl (by first | exact Or.inr rfl | exact Or.inl rfl) (by simp only [Try.results11, resA, aresL, go_sem, reduceIte, reduceCtorEq, Nat.reduceAdd, Nat.reduceMul, Nat.reduceSub, Nat.reduceLeDiff, Nat.lt_irrefl, Nat.reduceLT, Nat.reduceEqDiff, Nat.reduceBEq, Int.reduceLE, Int.reduceLT, Int.reduceToNat, w64, eq_self] <;> rfl) (by decide) ?_ ?_ ⟨rfl, rfl⟩) | (refine EndA_rows [none] hcl (by first | exact Or.inr rfl | exact Or.inl rfl) (by simp only [Try.results11, resA, aresL, go_sem, reduceIte, reduceCtorEq, Nat.reduceAdd, Nat.reduceMul, Nat.reduceSub, Nat.reduceLeDiff, Nat.lt_irrefl, Nat.reduceLT, Nat.reduceEqDiff, Nat.reduceBEq, Int.reduceLE, Int.reduceLT, Int.reduceToNat, w64, eq_self] <;> rfl) (by decide) ?_ ?_ ⟨rfl, rfl⟩)
    rotate_left
    · repeat' (first | exact trivial | apply TdT.tup | apply TdT.one | apply TdL.agg | apply TdL.cell | exact TdB.old _ trivial rfl | exact TdB.virt 0 rfl | exact TdB.junk _ | exact TdB.old _ (by assumption) (by assumption) | refine And.intro ?_ ?_)
    all_goals (repeat' (first | (with_reducible exact RowOk.none) | ((with_reducible apply RowOk.emp); exact rfl) | ((with_reducible apply RowOk.eq); (exact rfl); rotate_left; (first | (with_reducible exact scal_int _ _) | (with_reducible exact scal_flt _ _) | (with_reducible exact scal_bool _) | (intro c hc; cases hc; done) | (simp [LV.isCell, bnd]; done))) | exact trivial | refine And.intro ?_ ?_))
    all_goals (try rfl)
  simp only [if_true, reduceIte]
  have hv' := hv
  unfold pcV at hv'
  simp only [Bool.and_eq_true] at hv'
  obtain ⟨⟨⟨e1, e2⟩, e3⟩, e4⟩ := hv'
  have e3' := e3
  unfold inB at e3'
  simp only [Bool.and_eq_true, decide_eq_true_eq] at e3'
  have e4' := (keyB_iff s).1 e4
  obtain ⟨M, hM⟩ : ∃ M, (3 * n).toNat = M := ⟨_, rfl⟩
  have hMn : (M : Int) = 3 * n := by omega
  have hw3 : IntKind.i64.wrap (3 * n) = (M : Int) := by rw [w64 _ (by omega) (by omega)]; omega
  have hkey : ∀ i, i < ks.length → 0 ≤ ix ks i ∧ ix ks i ≤ 4294967295 := fun i hi => by
    unfold keysB at e1
    simp only [Bool.and_eq_true] at e1
    exact (keyB_iff _).1 (List.all_eq_true.1 e1.2 _ (ix_mem ks i hi))
  have hkl : ks.length ≤ 256 := by
    unfold keysB at e1
    simp only [Bool.and_eq_true, decide_eq_true_eq] at e1
    exact e1.1
  have hmk : ∀ (te : TE) (el : Nat) (L : Hp), te.by_ * M ≤ 140737488355328 → amake te el L (M : Int) (M : Int) = some (.sl L.length 0 0 M none, L ++ [⟨0, false, el, te.sz, zeros te.zs M⟩]) := fun te el L h3 => amake_ok (Nat.le_refl _) (by omega) h3
  obtain ⟨R, hR⟩ : ∃ R, peelG n s ks.length ks [] [] = R := ⟨_, rfl⟩
  rw [hR]
  (refine FunH_body tyOk Try.func11 rfl (by kernel_rfl) Try.ntmps11 (fun hcl hbd => ?_); simp only [List.length_cons, List.length_nil, Nat.reduceAdd, Nat.reduceSub, List.replicate, List.cons_append, List.nil_append])
  repeat' (first
 | ((with_reducible refine hK _ _ ?_); clear hK K)
 | ((first | (with_reducible show AOp _ _ _ _ _ _ _)); simp (disch := first | ((with_reducible show liveO _ _ _ = true); first | assumption | (exact hS.lvA) | (exact hS.lvAA _) | (exact aSl _ _) | (exact hS.ls.lvA) | (exact hS.ls.lvAA _) | (exact hl1) | (exact aS1 _) | (exact liveO_setS (by assumption)) | (exact PtL.live (by assumption)) | (exact PtL.liveA (by assumption) _) | (simp only [go_sem]; done)) | omega | assumption | rfl | (simp only [go_sem]; first | done | omega)) only [go_sem, reduceIte, reduceCtorEq, Nat.reduceAdd, Nat.reduceMul, Nat.reduceSub, Nat.reduceLeDiff, Nat.lt_irrefl, Nat.reduceLT, Nat.reduceEqDiff, Nat.reduceBEq, Int.reduceLE, Int.reduceLT, Int.reduceToNat, w64, eq_self, h.lenm, e1, e2, e3, e4, hw3, hmk])
 | (with_reducible refine AW_seq (fun K hK => ?_))
 | (with_reducible refine AW_region tyOk ?_)
 | (with_reducible refine AOps_cons (fun K hK => ?_))
 | ((with_reducible refine AOps_nil ?_); try simp only [thenA, blockA, if_true, if_false, reduceIte, Nat.reduceEqDiff, reduceCtorEq])
 | (with_reducible refine AW_block ?_)
 | ((first | (with_reducible refine AW_ret ?_) | (with_reducible refine AW_skip ?_) | (with_reducible refine AW_exit ?_)); try simp only [thenA, blockA, if_true, if_false, reduceIte, Nat.reduceEqDiff, reduceCtorEq])
 | ((with_reducible show AW _ _ (.cond _ _ _) _ _ _); refine AW_cond rfl (fun hg => ?_) (fun hg => ?_) <;> first | (exfalso; simp only [reduceCtorEq] at hg; done) | ((try simp only [Bool.not_eq_true', Bool.not_eq_false', decide_eq_true_eq, decide_eq_false_iff_not] at hg); try (exfalso; omega)))
 | ((with_reducible show _ ∧ _); refine And.intro (fun hg => ?_) (fun hg => ?_) <;> (try simp only [Bool.not_eq_true', Bool.not_eq_false'] at hg) <;> simp only [hg] <;> (try simp only [decide_eq_true_eq, decide_eq_false_iff_not] at hg) <;> (try (exfalso; omega)))
 | ((with_reducible apply FunH_intro); (first | exact IsKey_c _ _ | exact AreKeys_c _ _ _ (by first | assumption | exact RdL.app (by assumption) _ | exact RdL_hj rfl (by simp) | exact RdL_h0 rfl (by simp) | exact RdL_nil | exact RdL_emp) (by first | assumption | omega | (simp; omega) | (simp; done)) | exact areDifferent_c _ _ _ (by first | assumption | exact RdL.app (by assumption) _ | exact RdL_hj rfl (by simp) | exact RdL_h0 rfl (by simp) | exact RdL_nil | exact RdL_emp) (by first | assumption | omega | (simp; omega) | (simp; done)) | exact within_c _ _ _ _ | exact peelPlaces_c _ _ _ (by first | assumption | omega | (simp; omega) | (simp; done)) (by first | assumption | omega | (simp; omega) | (simp; done)) (by first | assumption | omega | (simp; omega) | (simp; done)) _ | exact IndexFunc_is_c _ _ _ _ _ _ _ (by first | assumption | exact RdL.app (by assumption) _ | exact RdL_hj rfl (by simp) | exact RdL_h0 rfl (by simp) | exact RdL_nil | exact RdL_emp) (by first | assumption | exact RdL.app (by assumption) _ | exact RdL_hj rfl (by simp) | exact RdL_h0 rfl (by simp) | exact RdL_nil | exact RdL_emp) (by first | assumption | (simp; done)) (by first | assumption | omega | (simp; omega) | (simp; done)) | exact PeelOne_c _ _ _ (by first | assumption | exact RdL.app (by assumption) _ | exact RdL_hj rfl (by simp) | exact RdL_h0 rfl (by simp) | exact RdL_nil | exact RdL_emp) (by first | assumption | omega | (simp; omega) | (simp; done)) | exact DeleteFunc_int64_c _ _ _ _ _ _ _ _ _ (by first | assumption | exact (hp_getj _ _ _).trans rfl | exact (hp_get0 _ _).trans rfl) (by first | rfl | assumption | omega | (simp; done)) (by first | assumption | omega | (simp; omega) | (simp; done)) (by first | assumption | (simp; done)) | exact PeelKey_c _ _ _ _ _ (by first | assumption | exact PtL.app (by assumption) _ | exact PtL_h0 rfl | exact PtL_hj rfl)))
 | (clear hK K)
    | fail)
  refine AW.weak (virtR 0 24 M M (Nat.le_refl _)) ?_
  rw [Nat.sub_self, List.replicate_zero, List.append_nil]
  have hS0 := LSi.start H M
  obtain ⟨X0, hX0⟩ : ∃ X0, H ++ ((⟨0, false, 24, 1, (emptyP (H.length + 1) M).map cRi⟩ : AO) :: List.replicate M ⟨0, false, 2, 1, []⟩) = X0 := ⟨_, rfl⟩
  obtain ⟨A, hA⟩ : ∃ A, H.length = A := ⟨_, rfl⟩
  rw [hX0] at hS0 ⊢
  rw [hA] at hS0 ⊢
  have hW0 : wRi (emptyP (A + 1) M) = rowC M (holdL n s (ks.take 0)) := by
    rw [emptyP_w, List.take_zero]
    apply List.ext_getElem?
    intro i
    rcases Nat.lt_or_ge i M with hi | hi
    · rw [rowC_get hi, List.getElem?_replicate, if_pos hi]; rfl
    · rw [List.getElem?_eq_none (by simpa using hi), List.getElem?_eq_none (by rw [rowC_len]; exact hi)]
  refine AW_loopV [10, 11, 12, 14, 52, 53, 54, 55, 56, 57, 58, 59, 60, 61, 62, 63, 64, 65, 66, 67, 68, 69, 70, 71, 72, 73, 74, 75, 76, 77, 78] (fun p : Nat × Hp × List (Nat × Nat × List Int) => [(52, .int .i64 (p.1 : Nat))]) (fun p => p.2.1) (fun p => p.1 ≤ ks.length ∧ LSi H p.2.1 A p.2.2 ∧ wRi p.2.2 = rowC M (holdL n s (ks.take p.1))) (fun p => ks.length - p.1) (0, X0, emptyP (A + 1) M) ⟨Nat.zero_le _, hS0, hW0⟩ ?_ rfl ?_
  · simp only [junkAll, setAll, List.foldl_cons, List.foldl_nil, List.set_cons_succ, List.set_cons_zero, JL, true_or, or_true, and_true, true_and, reduceCtorEq, false_or, or_false, LV.int.injEq, LV.bool.injEq, LV.flt.injEq, LV.sl.injEq, LV.ptr.injEq, eq_self, Int.natCast_add, Int.natCast_one, Int.natCast_zero, Int.ofNat_zero]
  clear hS0 hW0 hX0
  intro ⟨i, X, P⟩ ⟨hi, hS, hW⟩ K hK
  simp only at hi hS hW
  obtain ⟨KZ, hKZ⟩ := hS.pre
  have hz : RdL X lv (ks.map (LV.int .i64)) := by rw [hKZ]; exact h.app _
  clear hKZ KZ
  simp only [junkAll, setAll, List.foldl_cons, List.foldl_nil, List.set_cons_succ, List.set_cons_zero]
  by_cases hik : i < ks.length
  · have hki := hkey i hik
    have hlm3 : ((thrL (ix ks i) n s 3).map (LV.int .i64)).length = 3 := by rw [List.length_map, thrL_len]
    repeat' (first
 | ((with_reducible refine hK _ _ ?_); clear hK K)
 | ((first | (with_reducible show AOp _ _ _ _ _ _ _)); simp (disch := first | ((with_reducible show liveO _ _ _ = true); first | assumption | (exact hS.lvA) | (exact hS.lvAA _) | (exact aSl _ _) | (exact hS.ls.lvA) | (exact hS.ls.lvAA _) | (exact hl1) | (exact aS1 _) | (exact liveO_setS (by assumption)) | (exact PtL.live (by assumption)) | (exact PtL.liveA (by assumption) _) | (simp only [go_sem]; done)) | omega | assumption | rfl | (simp only [go_sem]; first | done | omega)) only [go_sem, reduceIte, reduceCtorEq, Nat.reduceAdd, Nat.reduceMul, Nat.reduceSub, Nat.reduceLeDiff, Nat.lt_irrefl, Nat.reduceLT, Nat.reduceEqDiff, Nat.reduceBEq, Int.reduceLE, Int.reduceLT, Int.reduceToNat, w64, eq_self, hz.lenm, hz.idxm, hz.ldm, thr_put, thr_hgets, thrL_len, int_cells])
 | (with_reducible refine AW_seq (fun K hK => ?_))
 | (with_reducible refine AW_region tyOk ?_)
 | (with_reducible refine AOps_cons (fun K hK => ?_))
 | ((with_reducible refine AOps_nil ?_); try simp only [thenA, blockA, if_true, if_false, reduceIte, Nat.reduceEqDiff, reduceCtorEq])
 | (with_reducible refine AW_block ?_)
 | ((first | (with_reducible refine AW_ret ?_) | (with_reducible refine AW_skip ?_) | (with_reducible refine AW_exit ?_)); try simp only [thenA, blockA, if_true, if_false, reduceIte, Nat.reduceEqDiff, reduceCtorEq])
 | ((with_reducible show AW _ _ (.cond _ _ _) _ _ _); refine AW_cond rfl (fun hg => ?_) (fun hg => ?_) <;> first | (exfalso; simp only [reduceCtorEq] at hg; done) | ((try simp only [Bool.not_eq_true', Bool.not_eq_false', decide_eq_true_eq, decide_eq_false_iff_not] at hg); try (exfalso; omega)))
 | ((with_reducible show _ ∧ _); refine And.intro (fun hg => ?_) (fun hg => ?_) <;> (try simp only [Bool.not_eq_true', Bool.not_eq_false'] at hg) <;> simp only [hg] <;> (try simp only [decide_eq_true_eq, decide_eq_false_iff_not] at hg) <;> (try (exfalso; omega)))
 | ((with_reducible apply FunH_intro); (first | ((with_reducible show FunH _ 25 _ _ _); exact peelPlaces_c (ix ks i) n s hki e3' e4' _)))
 | (clear hK K)
      | fail)
    obtain ⟨k, hk⟩ : ∃ k, ix ks i = k := ⟨_, rfl⟩
    have hS0 := hS.app [(⟨0, false, 50, 3, (thrL k n s 3).map (LV.int .i64)⟩ : AO)]
    rw [hk] at hki hlm3 ⊢
    obtain ⟨X0, hX0⟩ : ∃ X0, X ++ [(⟨0, false, 50, 3, (thrL k n s 3).map (LV.int .i64)⟩ : AO)] = X0 := ⟨_, rfl⟩
    rw [hX0] at hS0 ⊢
    refine AW_loopV [14, 64, 65, 66, 67, 68, 69, 70, 71, 72, 73, 74, 75, 76, 77] (fun p : Nat × Hp × List (Nat × Nat × List Int) => [(64, .int .i64 (p.1 : Nat))]) (fun p => p.2.1) (fun p => p.1 ≤ 3 ∧ LSi H p.2.1 A p.2.2 ∧ wRi p.2.2 = rowC M (mixH n s k p.1 (fun c => holdL n s (ks.take i) c ++ [k]) (holdL n s (ks.take i)))) (fun p => 3 - p.1) (0, X0, P) ⟨Nat.zero_le _, hS0, by rw [mixH_zero]; exact hW⟩ ?_ rfl ?_
    · simp only [junkAll, setAll, List.foldl_cons, List.foldl_nil, List.set_cons_succ, List.set_cons_zero, JL, true_or, or_true, and_true, true_and, reduceCtorEq, false_or, or_false, LV.int.injEq, LV.bool.injEq, LV.flt.injEq, LV.sl.injEq, LV.ptr.injEq, eq_self, Int.natCast_add, Int.natCast_one, Int.natCast_zero, Int.ofNat_zero]
    clear hS0 hX0 hW hS hz
    intro ⟨j, X, P⟩ ⟨hj, hS, hW⟩ K hK
    simp only at hj hS hW
    have hPl : P.length = M := by rw [← wRi_len P, hW, rowC_len]
    simp only [junkAll, setAll, List.foldl_cons, List.foldl_nil, List.set_cons_succ, List.set_cons_zero]
    by_cases hj3 : j < 3
    · obtain ⟨p0, p1, p2, p3⟩ := pkI_b (k := k) (s := s) e3' hj3
      obtain ⟨c, hc⟩ : ∃ c : Nat, pkI k n s j = (c : Nat) := ⟨(pkI k n s j).toNat, by omega⟩
      have hcM : c < M := by omega
      have hk1 : c < P.length := by omega
      obtain ⟨i1, v1, w1, hi1⟩ : ∃ i1 v1 w1, ix P c = (i1, v1, w1) := ⟨_, _, _, rfl⟩
      have hw1 : holdL n s (ks.take i) c = w1 := by have := wRi_ix hk1; rw [hW, hi1, rowC_ix hcM, mixH_at e3' hj3 hc] at this; exact this
      have hw1n : w1.length ≤ 1048576 := by have := holdL_le (n := n) (s := s) (left := ks.take i) c; rw [hw1, List.length_take] at this; omega
      have hcell : (P.map cRi)[c]? = some (.sl i1 v1 0 w1.length none) := by rw [List.getElem?_map, ix_get? _ _ hk1, hi1]; rfl
      have o1 : ∀ L : Hp, (X ++ L)[i1]? = some ⟨v1, false, 2, 1, w1.map (LV.int .i64)⟩ := fun L => at_appI (by have := (hS.row c hk1).1; rw [hi1] at this; exact this) L
      have n1A : i1 ≠ A := by have := (hS.row c hk1).2.2; rw [hi1] at this; exact this
      have aS : ∀ (L : Hp) (o : AO), ((X ++ L).set i1 o)[A]? = some ⟨0, false, 24, 1, P.map cRi⟩ := fun L o => by rw [List.getElem?_set_ne n1A]; exact at_appI hS.out L
      have aSl : ∀ (L : Hp) (o : AO), liveO ((X ++ L).set i1 o) A 0 = true := fun L o => liveO_atI (aS L o)
      have aSp : ∀ (L : Hp) (o : AO) (x : LV), hput ((X ++ L).set i1 o) A 0 c [x] = some (((X ++ L).set i1 o).set A ⟨0, false, 24, 1, (P.map cRi).set c x⟩) := fun L o x => hputA_atI (aS L o) (by simp; omega)
      have hwc : (w1.map (LV.int .i64)).length = w1.length := List.length_map ..
      have hap := fun (L : Hp) => aapp1 (el := 2) (id := i1) (ver := v1) (H := X ++ L) (x := LV.int .i64 k) hwc (int_cells w1) hw1n
      have hS4 := (hS.app [(⟨0, false, 2, 1, [.int .i64 k]⟩ : AO)]).putOld hk1 (v1 + 1) (w1 ++ [k])
      rw [hi1] at hS4
      simp only [List.map_append, List.length_append] at hS4
      have j30 : (0 : Int) ≤ (j : Int) := by omega
      have j33 : (j : Int) < ((3 : Nat) : Int) := by omega
      repeat' (first
 | ((with_reducible refine hK _ _ ?_); clear hK K)
 | ((first | (with_reducible show AOp _ _ _ _ _ _ _)); simp (disch := first | ((with_reducible show liveO _ _ _ = true); first | assumption | (exact hS.lvA) | (exact hS.lvAA _) | (exact aSl _ _) | (exact hS.ls.lvA) | (exact hS.ls.lvAA _) | (exact hl1) | (exact aS1 _) | (exact liveO_setS (by assumption)) | (exact PtL.live (by assumption)) | (exact PtL.liveA (by assumption) _) | (simp only [go_sem]; done)) | omega | assumption | rfl | (simp only [go_sem]; first | done | omega)) only [go_sem, reduceIte, reduceCtorEq, Nat.reduceAdd, Nat.reduceMul, Nat.reduceSub, Nat.reduceLeDiff, Nat.lt_irrefl, Nat.reduceLT, Nat.reduceEqDiff, Nat.reduceBEq, Int.reduceLE, Int.reduceLT, Int.reduceToNat, w64, eq_self, thr_get, j30, j33, hc, hS.gA, hcell, o1, hwc, hap, aSp])
 | (with_reducible refine AW_seq (fun K hK => ?_))
 | (with_reducible refine AW_region tyOk ?_)
 | (with_reducible refine AOps_cons (fun K hK => ?_))
 | ((with_reducible refine AOps_nil ?_); try simp only [thenA, blockA, if_true, if_false, reduceIte, Nat.reduceEqDiff, reduceCtorEq])
 | (with_reducible refine AW_block ?_)
 | ((first | (with_reducible refine AW_ret ?_) | (with_reducible refine AW_skip ?_) | (with_reducible refine AW_exit ?_)); try simp only [thenA, blockA, if_true, if_false, reduceIte, Nat.reduceEqDiff, reduceCtorEq])
 | ((with_reducible show AW _ _ (.cond _ _ _) _ _ _); refine AW_cond rfl (fun hg => ?_) (fun hg => ?_) <;> first | (exfalso; simp only [reduceCtorEq] at hg; done) | ((try simp only [Bool.not_eq_true', Bool.not_eq_false', decide_eq_true_eq, decide_eq_false_iff_not] at hg); try (exfalso; omega)))
 | ((with_reducible show _ ∧ _); refine And.intro (fun hg => ?_) (fun hg => ?_) <;> (try simp only [Bool.not_eq_true', Bool.not_eq_false'] at hg) <;> simp only [hg] <;> (try simp only [decide_eq_true_eq, decide_eq_false_iff_not] at hg) <;> (try (exfalso; omega)))
 | (clear hK K)
        | fail)
      refine hK _ _ (j + 1, _, P.set c (i1, v1 + 1, w1 ++ [k])) ⟨by simp only; omega, hS4, ?_⟩ (by simp only; omega) ?_ rfl
      · show List.map _ (List.set _ _ _) = _
        rw [List.map_set]
        show (wRi P).set c (w1 ++ [k]) = _
        rw [hW, ← hw1]
        exact rowC_set (f := fun c => holdL n s (ks.take i) c ++ [k]) hj3 hc hcM
      · simp only [junkAll, setAll, List.foldl_cons, List.foldl_nil, List.set_cons_succ, List.set_cons_zero, JL, true_or, or_true, and_true, true_and, reduceCtorEq, false_or, or_false, LV.int.injEq, LV.bool.injEq, LV.flt.injEq, LV.sl.injEq, LV.ptr.injEq, eq_self, Int.natCast_add, Int.natCast_one, Int.natCast_zero, Int.ofNat_zero]
    · have hje : j = 3 := by omega
      subst hje
      repeat' (first
 | ((with_reducible refine hK _ _ ?_); clear hK K)
 | ((first | (with_reducible show AOp _ _ _ _ _ _ _)); simp (disch := first | ((with_reducible show liveO _ _ _ = true); first | assumption | (exact hS.lvA) | (exact hS.lvAA _) | (exact aSl _ _) | (exact hS.ls.lvA) | (exact hS.ls.lvAA _) | (exact hl1) | (exact aS1 _) | (exact liveO_setS (by assumption)) | (exact PtL.live (by assumption)) | (exact PtL.liveA (by assumption) _) | (simp only [go_sem]; done)) | omega | assumption | rfl | (simp only [go_sem]; first | done | omega)) only [go_sem, reduceIte, reduceCtorEq, Nat.reduceAdd, Nat.reduceMul, Nat.reduceSub, Nat.reduceLeDiff, Nat.lt_irrefl, Nat.reduceLT, Nat.reduceEqDiff, Nat.reduceBEq, Int.reduceLE, Int.reduceLT, Int.reduceToNat, w64, eq_self])
 | (with_reducible refine AW_seq (fun K hK => ?_))
 | (with_reducible refine AW_region tyOk ?_)
 | (with_reducible refine AOps_cons (fun K hK => ?_))
 | ((with_reducible refine AOps_nil ?_); try simp only [thenA, blockA, if_true, if_false, reduceIte, Nat.reduceEqDiff, reduceCtorEq])
 | (with_reducible refine AW_block ?_)
 | ((first | (with_reducible refine AW_ret ?_) | (with_reducible refine AW_skip ?_) | (with_reducible refine AW_exit ?_)); try simp only [thenA, blockA, if_true, if_false, reduceIte, Nat.reduceEqDiff, reduceCtorEq])
 | ((with_reducible show AW _ _ (.cond _ _ _) _ _ _); refine AW_cond rfl (fun hg => ?_) (fun hg => ?_) <;> first | (exfalso; simp only [reduceCtorEq] at hg; done) | ((try simp only [Bool.not_eq_true', Bool.not_eq_false', decide_eq_true_eq, decide_eq_false_iff_not] at hg); try (exfalso; omega)))
 | ((with_reducible show _ ∧ _); refine And.intro (fun hg => ?_) (fun hg => ?_) <;> (try simp only [Bool.not_eq_true', Bool.not_eq_false'] at hg) <;> simp only [hg] <;> (try simp only [decide_eq_true_eq, decide_eq_false_iff_not] at hg) <;> (try (exfalso; omega)))
 | (clear hK K)
        | fail)
      refine hK _ _ (i + 1, X, P) ⟨by simp only; omega, hS, ?_⟩ (by simp only; omega) ?_ rfl
      · show wRi P = _
        rw [hW, holdL_add, take_ix _ _ hik, hk]
      · simp only [junkAll, setAll, List.foldl_cons, List.foldl_nil, List.set_cons_succ, List.set_cons_zero, JL, true_or, or_true, and_true, true_and, reduceCtorEq, false_or, or_false, LV.int.injEq, LV.bool.injEq, LV.flt.injEq, LV.sl.injEq, LV.ptr.injEq, eq_self, Int.natCast_add, Int.natCast_one, Int.natCast_zero, Int.ofNat_zero]
  · have hie : ks.length = i := by omega
    rw [← hie, List.take_length] at hW
    repeat' (first
 | ((with_reducible refine hK _ _ ?_); clear hK K)
 | ((first | (with_reducible show AOp _ _ _ _ _ _ _)); simp (disch := first | ((with_reducible show liveO _ _ _ = true); first | assumption | (exact hS.lvA) | (exact hS.lvAA _) | (exact aSl _ _) | (exact hS.ls.lvA) | (exact hS.ls.lvAA _) | (exact hl1) | (exact aS1 _) | (exact liveO_setS (by assumption)) | (exact PtL.live (by assumption)) | (exact PtL.liveA (by assumption) _) | (simp only [go_sem]; done)) | omega | assumption | rfl | (simp only [go_sem]; first | done | omega)) only [go_sem, reduceIte, reduceCtorEq, Nat.reduceAdd, Nat.reduceMul, Nat.reduceSub, Nat.reduceLeDiff, Nat.lt_irrefl, Nat.reduceLT, Nat.reduceEqDiff, Nat.reduceBEq, Int.reduceLE, Int.reduceLT, Int.reduceToNat, w64, eq_self, hz.lenm])
 | (with_reducible refine AW_seq (fun K hK => ?_))
 | (with_reducible refine AW_region tyOk ?_)
 | (with_reducible refine AOps_cons (fun K hK => ?_))
 | ((with_reducible refine AOps_nil ?_); try simp only [thenA, blockA, if_true, if_false, reduceIte, Nat.reduceEqDiff, reduceCtorEq])
 | (with_reducible refine AW_block ?_)
 | ((first | (with_reducible refine AW_ret ?_) | (with_reducible refine AW_skip ?_) | (with_reducible refine AW_exit ?_)); try simp only [thenA, blockA, if_true, if_false, reduceIte, Nat.reduceEqDiff, reduceCtorEq])
 | ((with_reducible show AW _ _ (.cond _ _ _) _ _ _); refine AW_cond rfl (fun hg => ?_) (fun hg => ?_) <;> first | (exfalso; simp only [reduceCtorEq] at hg; done) | ((try simp only [Bool.not_eq_true', Bool.not_eq_false', decide_eq_true_eq, decide_eq_false_iff_not] at hg); try (exfalso; omega)))
 | ((with_reducible show _ ∧ _); refine And.intro (fun hg => ?_) (fun hg => ?_) <;> (try simp only [Bool.not_eq_true', Bool.not_eq_false'] at hg) <;> simp only [hg] <;> (try simp only [decide_eq_true_eq, decide_eq_false_iff_not] at hg) <;> (try (exfalso; omega)))
 | (clear hK K)
      | fail)
    have hP0 := hS.startP
    obtain ⟨X0, hX0⟩ : ∃ X0, X ++ [(⟨0, false, 2, 1, []⟩ : AO), ⟨0, false, 2, 1, []⟩] = X0 := ⟨_, rfl⟩
    obtain ⟨I, hI⟩ : ∃ I, X.length = I := ⟨_, rfl⟩
    obtain ⟨J, hJ⟩ : ∃ J, I + 1 = J := ⟨_, rfl⟩
    rw [hX0, hI, hJ] at hP0
    simp only [hX0, hI, hJ]
    have hnd : ks.Nodup := difB_nodup e2
    have hin : ∀ x ∈ ks, 0 ≤ x ∧ x ≤ 4294967295 := fun x hx => by obtain ⟨j, hj, rfl⟩ := mem_ixQ hx; exact hkey j hj
    obtain ⟨L, hL⟩ : ∃ L, ks.length = L := ⟨_, rfl⟩
    rw [hL] at hR
    refine AW_loopV [6, 7, 15, 16, 17, 18, 19, 20, 22, 83, 84, 85, 86, 87, 88, 89, 90, 91, 92, 93, 94, 95, 96, 97, 98, 99, 100, 101, 102, 103, 104, 105, 106, 107, 108, 109, 110, 111, 112, 113, 114, 115, 116, 117, 118, 119, 120, 121, 122, 123, 124] (fun p : Nat × Hp × List (Nat × Nat × List Int) × (Nat × Nat) × (List Int × List Int × List Int) => [(15, .sl I p.2.2.2.1.1 0 p.1 none), (16, .sl J p.2.2.2.1.2 0 p.1 none), (83, .int .i64 (p.1 : Nat))]) (fun p => p.2.1)
      (fun p => p.1 ≤ L ∧ PSi H p.2.1 A p.2.2.1 I J p.2.2.2.1.1 p.2.2.2.1.2 p.2.2.2.2.2.1 p.2.2.2.2.2.2 ∧ wRi p.2.2.1 = rowC M (holdL n s p.2.2.2.2.1) ∧ pgI n s L p.1 R p.2.2.2.2.1 p.2.2.2.2.2.1 p.2.2.2.2.2.2) (fun p => L - p.1) (0, X0, P, (0, 0), (ks, [], [])) ⟨Nat.zero_le _, hP0, hW, pgI_start hnd hin hL hR⟩ ?_ rfl ?_
    · simp only [junkAll, setAll, List.foldl_cons, List.foldl_nil, List.set_cons_succ, List.set_cons_zero, JL, true_or, or_true, and_true, true_and, reduceCtorEq, false_or, or_false, LV.int.injEq, LV.bool.injEq, LV.flt.injEq, LV.sl.injEq, LV.ptr.injEq, eq_self, Int.natCast_add, Int.natCast_one, Int.natCast_zero, Int.ofNat_zero]
    clear hP0 hX0 hW hS hz hR
    intro ⟨r, X, P, ⟨vi, vj⟩, left, o, t⟩ ⟨hr, hS, hW, hG⟩ K hK
    simp only at hr hS hW hG
    have hPl : P.length = M := by rw [← wRi_len P, hW, rowC_len]
    obtain ⟨KZ, hKZ⟩ := hS.ls.pre
    have hz : RdL X lv (ks.map (LV.int .i64)) := by rw [hKZ]; exact h.app _
    simp only [junkAll, setAll, List.foldl_cons, List.foldl_nil, List.set_cons_succ, List.set_cons_zero]
    by_cases hrL : r < L
    · have hix := IndexFunc_is_c (.sl A 0 0 M none) (P.map cRi) (wRi P) (fun r : List Int => r.length == 1) 27 [] X (hPl ▸ hS.ls.rd) hS.ls.rdl (fun k hk => PeelOne_c _ _ _ (hS.ls.rdl.at hk) (by rw [hW] at hk ⊢; rw [rowC_len] at hk; rw [rowC_ix hk]; have := holdL_le (n := n) (s := s) (left := left) k; have := hG.len; omega)) (by rw [wRi_len, hPl]; omega)
      rw [hW] at hix
      have hone : idxF (fun r : List Int => r.length == 1) (rowC M (holdL n s left)) = oneI n s left := by rw [← hM]; rfl
      rw [hone] at hix
      by_cases hneg : oneI n s left < 0
      · have hRn := hG.none hrL hneg
        subst hRn
        repeat' (first
 | ((with_reducible refine hK _ _ ?_); clear hK K)
 | ((first | (with_reducible show AOp _ _ _ _ _ _ _)); simp (disch := first | ((with_reducible show liveO _ _ _ = true); first | assumption | (exact hS.lvA) | (exact hS.lvAA _) | (exact aSl _ _) | (exact hS.ls.lvA) | (exact hS.ls.lvAA _) | (exact hl1) | (exact aS1 _) | (exact liveO_setS (by assumption)) | (exact PtL.live (by assumption)) | (exact PtL.liveA (by assumption) _) | (simp only [go_sem]; done)) | omega | assumption | rfl | (simp only [go_sem]; first | done | omega)) only [go_sem, reduceIte, reduceCtorEq, Nat.reduceAdd, Nat.reduceMul, Nat.reduceSub, Nat.reduceLeDiff, Nat.lt_irrefl, Nat.reduceLT, Nat.reduceEqDiff, Nat.reduceBEq, Int.reduceLE, Int.reduceLT, Int.reduceToNat, w64, eq_self, hneg])
 | (with_reducible refine AW_seq (fun K hK => ?_))
 | (with_reducible refine AW_region tyOk ?_)
 | (with_reducible refine AOps_cons (fun K hK => ?_))
 | ((with_reducible refine AOps_nil ?_); try simp only [thenA, blockA, if_true, if_false, reduceIte, Nat.reduceEqDiff, reduceCtorEq])
 | (with_reducible refine AW_block ?_)
 | ((first | (with_reducible refine AW_ret ?_) | (with_reducible refine AW_skip ?_) | (with_reducible refine AW_exit ?_)); try simp only [thenA, blockA, if_true, if_false, reduceIte, Nat.reduceEqDiff, reduceCtorEq])
 | ((with_reducible show AW _ _ (.cond _ _ _) _ _ _); refine AW_cond rfl (fun hg => ?_) (fun hg => ?_) <;> first | (exfalso; simp only [reduceCtorEq] at hg; done) | ((try simp only [Bool.not_eq_true', Bool.not_eq_false', decide_eq_true_eq, decide_eq_false_iff_not] at hg); try (exfalso; omega)))
 | ((with_reducible show _ ∧ _); refine And.intro (fun hg => ?_) (fun hg => ?_) <;> (try simp only [Bool.not_eq_true', Bool.not_eq_false'] at hg) <;> simp only [hg] <;> (try simp only [decide_eq_true_eq, decide_eq_false_iff_not] at hg) <;> (try (exfalso; omega)))
 | ((with_reducible apply FunH_intro); (first | exact hix))
 | (clear hK K)
          | fail)
        rw [hKZ]
        first | (refine EndA_rows0 [none] hcl (by first | exact Or.inr rfl | exact Or.inl rfl) (by simp only [Try.results11, resA, aresL, go_sem, reduceIte, reduceCtorEq, Nat.reduceAdd, Nat.reduceMul, Nat.reduceSub, Nat.reduceLeDiff, Nat.lt_irrefl, Nat.reduceLT, Nat.reduceEqDiff, Nat.reduceBEq, Int.reduceLE, Int.reduceLT, Int.reduceToNat, w64, eq_self] <;> rfl) (by decide) ?_ ?_ ⟨rfl, rfl⟩) | (refine EndA_rows [none] hcl (by first | exact Or.inr rfl | exact Or.inl rfl) (by simp only [Try.results11, resA, aresL, go_sem, reduceIte, reduceCtorEq, Nat.reduceAdd, Nat.reduceMul, Nat.reduceSub, Nat.reduceLeDiff, Nat.lt_irrefl, Nat.reduceLT, Nat.reduceEqDiff, Nat.reduceBEq, Int.reduceLE, Int.reduceLT, Int.reduceToNat, w64, eq_self] <;> rfl) (by decide) ?_ ?_ ⟨rfl, rfl⟩)
        rotate_left
        · repeat' (first | exact trivial | apply TdT.tup | apply TdT.one | apply TdL.agg | apply TdL.cell | exact TdB.old _ trivial rfl | exact TdB.virt 0 rfl | exact TdB.junk _ | exact TdB.old _ (by assumption) (by assumption) | refine And.intro ?_ ?_)
        all_goals (repeat' (first | (with_reducible exact RowOk.none) | ((with_reducible apply RowOk.emp); exact rfl) | ((with_reducible apply RowOk.eq); (exact rfl); rotate_left; (first | (with_reducible exact scal_int _ _) | (with_reducible exact scal_flt _ _) | (with_reducible exact scal_bool _) | (intro c hc; cases hc; done) | (simp [LV.isCell, bnd]; done))) | exact trivial | refine And.intro ?_ ?_))
        all_goals (try rfl)
      · obtain ⟨c, i, hc, hcM, hil, hhl, -, hflt, -⟩ := oneI_key (n := n) (s := s) hG.nd (by omega)
        have hG' := hG.step hrL hc hcM hil hhl hflt
        rw [hM] at hcM
        rw [hc] at hix
        obtain ⟨k, hk⟩ : ∃ k, ix left i = k := ⟨_, rfl⟩
        rw [hk] at hhl hG'
        have hki := hG.key.1 k (hk ▸ ix_mem left i hil)
        have hk1 : c < P.length := by omega
        obtain ⟨i1, v1, w1, hi1⟩ : ∃ i1 v1 w1, ix P c = (i1, v1, w1) := ⟨_, _, _, rfl⟩
        have hw1 : holdL n s left c = w1 := by have := wRi_ix hk1; rw [hW, hi1, rowC_ix hcM] at this; exact this
        rw [hhl] at hw1
        subst hw1
        have hcell : (P.map cRi)[c]? = some (.sl i1 v1 0 1 none) := by rw [List.getElem?_map, ix_get? _ _ hk1, hi1]; rfl
        have o1 : X[i1]? = some ⟨v1, false, 2, 1, [.int .i64 k]⟩ := by have := (hS.ls.row c hk1).1; rw [hi1] at this; exact this
        have hl1 : liveO X i1 v1 = true := liveO_atI o1
        repeat' (first
 | ((with_reducible refine hK _ _ ?_); clear hK K)
 | ((first | (with_reducible show AOp _ _ _ _ _ _ _)); simp (disch := first | ((with_reducible show liveO _ _ _ = true); first | assumption | (exact hS.lvA) | (exact hS.lvAA _) | (exact aSl _ _) | (exact hS.ls.lvA) | (exact hS.ls.lvAA _) | (exact hl1) | (exact aS1 _) | (exact liveO_setS (by assumption)) | (exact PtL.live (by assumption)) | (exact PtL.liveA (by assumption) _) | (simp only [go_sem]; done)) | omega | assumption | rfl | (simp only [go_sem]; first | done | omega)) only [go_sem, reduceIte, reduceCtorEq, Nat.reduceAdd, Nat.reduceMul, Nat.reduceSub, Nat.reduceLeDiff, Nat.lt_irrefl, Nat.reduceLT, Nat.reduceEqDiff, Nat.reduceBEq, Int.reduceLE, Int.reduceLT, Int.reduceToNat, w64, eq_self, hS.ls.gA, hcell, hget_atI o1])
 | ((with_reducible refine AW_seqN [21] ?_ (fun K hK => ?_)); (exact rfl))
 | (with_reducible refine AW_region tyOk ?_)
 | (with_reducible refine AOps_cons (fun K hK => ?_))
 | ((with_reducible refine AOps_nil ?_); try simp only [thenA, blockA, if_true, if_false, reduceIte, Nat.reduceEqDiff, reduceCtorEq])
 | (with_reducible refine AW_block ?_)
 | ((first | (with_reducible refine AW_ret ?_) | (with_reducible refine AW_skip ?_) | (with_reducible refine AW_exit ?_)); try simp only [thenA, blockA, if_true, if_false, reduceIte, Nat.reduceEqDiff, reduceCtorEq])
 | ((with_reducible show AW _ _ (.cond _ _ _) _ _ _); refine AW_cond rfl (fun hg => ?_) (fun hg => ?_) <;> first | (exfalso; simp only [reduceCtorEq] at hg; done) | ((try simp only [Bool.not_eq_true', Bool.not_eq_false', decide_eq_true_eq, decide_eq_false_iff_not] at hg); try (exfalso; omega)))
 | ((with_reducible show _ ∧ _); refine And.intro (fun hg => ?_) (fun hg => ?_) <;> (try simp only [Bool.not_eq_true', Bool.not_eq_false'] at hg) <;> simp only [hg] <;> (try simp only [decide_eq_true_eq, decide_eq_false_iff_not] at hg) <;> (try (exfalso; omega)))
 | ((with_reducible apply FunH_intro); (first | exact hix))
 | (clear hK K)
          | fail)
        have hS1 := hS.app [(⟨0, false, 2, 1, [.int .i64 k]⟩ : AO)]
        have hbx : (X ++ [(⟨0, false, 2, 1, [.int .i64 k]⟩ : AO)])[X.length]? = some ⟨0, false, 2, 1, [.int .i64 k]⟩ := (hp_get0 _ _).trans rfl
        have hBn : A ≠ X.length ∧ I ≠ X.length ∧ J ≠ X.length := by
          have q1 := hS.ls.ltA
          have q2 := lt_ofI hS.o1
          have q3 := lt_ofI hS.t1
          omega
        have hBk : ∀ j, j < P.length → (ix P j).1 ≠ X.length := fun j hj => by have := hS.ls.ltk hj; omega
        obtain ⟨Y, hY⟩ : ∃ Y, X ++ [(⟨0, false, 2, 1, [.int .i64 k]⟩ : AO)] = Y := ⟨_, rfl⟩
        obtain ⟨B, hB⟩ : ∃ B, X.length = B := ⟨_, rfl⟩
        rw [hY] at hS1 hbx ⊢
        rw [hB] at hbx hBn hBk
        simp only [hB]
        clear hY hB hz hKZ hl1 o1 hcell
        have hlo : (o.map (LV.int .i64)).length = r := by rw [List.length_map, hG.lo]
        have hlt : (t.map (LV.int .i64)).length = r := by rw [List.length_map, hG.lt]
        have hap1 := fun (L : Hp) => aapp1 (el := 2) (id := I) (ver := vi) (H := Y ++ L) (x := LV.int .i64 k) hlo (int_cells o) (by omega)
        have oI : ∀ L : Hp, (Y ++ L)[I]? = some ⟨vi, false, 2, 1, o.map (LV.int .i64)⟩ := at_appI hS1.o1
        repeat' (first
 | ((with_reducible refine hK _ _ ?_); clear hK K)
 | ((first | (with_reducible show AOp _ _ _ _ _ _ _)); simp (disch := first | ((with_reducible show liveO _ _ _ = true); first | assumption | (exact hS.lvA) | (exact hS.lvAA _) | (exact aSl _ _) | (exact hS.ls.lvA) | (exact hS.ls.lvAA _) | (exact hl1) | (exact aS1 _) | (exact liveO_setS (by assumption)) | (exact PtL.live (by assumption)) | (exact PtL.liveA (by assumption) _) | (simp only [go_sem]; done)) | omega | assumption | rfl | (simp only [go_sem]; first | done | omega)) only [go_sem, reduceIte, reduceCtorEq, Nat.reduceAdd, Nat.reduceMul, Nat.reduceSub, Nat.reduceLeDiff, Nat.lt_irrefl, Nat.reduceLT, Nat.reduceEqDiff, Nat.reduceBEq, Int.reduceLE, Int.reduceLT, Int.reduceToNat, w64, eq_self, hget_atI hbx, oI, hlo, hap1])
 | ((with_reducible refine AW_seqN [22] ?_ (fun K hK => ?_)); (exact rfl))
 | (with_reducible refine AW_region tyOk ?_)
 | (with_reducible refine AOps_cons (fun K hK => ?_))
 | ((with_reducible refine AOps_nil ?_); try simp only [thenA, blockA, if_true, if_false, reduceIte, Nat.reduceEqDiff, reduceCtorEq])
 | (with_reducible refine AW_block ?_)
 | ((first | (with_reducible refine AW_ret ?_) | (with_reducible refine AW_skip ?_) | (with_reducible refine AW_exit ?_)); try simp only [thenA, blockA, if_true, if_false, reduceIte, Nat.reduceEqDiff, reduceCtorEq])
 | ((with_reducible show AW _ _ (.cond _ _ _) _ _ _); refine AW_cond rfl (fun hg => ?_) (fun hg => ?_) <;> first | (exfalso; simp only [reduceCtorEq] at hg; done) | ((try simp only [Bool.not_eq_true', Bool.not_eq_false', decide_eq_true_eq, decide_eq_false_iff_not] at hg); try (exfalso; omega)))
 | ((with_reducible show _ ∧ _); refine And.intro (fun hg => ?_) (fun hg => ?_) <;> (try simp only [Bool.not_eq_true', Bool.not_eq_false'] at hg) <;> simp only [hg] <;> (try simp only [decide_eq_true_eq, decide_eq_false_iff_not] at hg) <;> (try (exfalso; omega)))
 | (clear hK K)
          | fail)
        have hS2 := (hS1.app [(⟨0, false, 2, 1, [.int .i64 k]⟩ : AO)]).pushI k
        have hbx2 : ((Y ++ [(⟨0, false, 2, 1, [.int .i64 k]⟩ : AO)]).set I ⟨vi + 1, false, 2, 1, o.map (LV.int .i64) ++ [.int .i64 k]⟩)[B]? = some ⟨0, false, 2, 1, [.int .i64 k]⟩ := by rw [List.getElem?_set_ne hBn.2.1]; exact at_appI hbx _
        obtain ⟨Z, hZ⟩ : ∃ Z, (Y ++ [(⟨0, false, 2, 1, [.int .i64 k]⟩ : AO)]).set I ⟨vi + 1, false, 2, 1, o.map (LV.int .i64) ++ [.int .i64 k]⟩ = Z := ⟨_, rfl⟩
        rw [hZ] at hS2 hbx2 ⊢
        clear hZ oI hap1 hbx hS1
        have hap2 := fun (L : Hp) => aapp1 (el := 2) (id := J) (ver := vj) (H := Z ++ L) (x := LV.int .i64 (c : Nat)) hlt (int_cells t) (by omega)
        have oJ : ∀ L : Hp, (Z ++ L)[J]? = some ⟨vj, false, 2, 1, t.map (LV.int .i64)⟩ := at_appI hS2.t1
        repeat' (first
 | ((with_reducible refine hK _ _ ?_); clear hK K)
 | ((first | (with_reducible show AOp _ _ _ _ _ _ _)); simp (disch := first | ((with_reducible show liveO _ _ _ = true); first | assumption | (exact hS.lvA) | (exact hS.lvAA _) | (exact aSl _ _) | (exact hS.ls.lvA) | (exact hS.ls.lvAA _) | (exact hl1) | (exact aS1 _) | (exact liveO_setS (by assumption)) | (exact PtL.live (by assumption)) | (exact PtL.liveA (by assumption) _) | (simp only [go_sem]; done)) | omega | assumption | rfl | (simp only [go_sem]; first | done | omega)) only [go_sem, reduceIte, reduceCtorEq, Nat.reduceAdd, Nat.reduceMul, Nat.reduceSub, Nat.reduceLeDiff, Nat.lt_irrefl, Nat.reduceLT, Nat.reduceEqDiff, Nat.reduceBEq, Int.reduceLE, Int.reduceLT, Int.reduceToNat, w64, eq_self, oJ, hlt, hap2])
 | ((with_reducible refine AW_seqN [23] ?_ (fun K hK => ?_)); (exact rfl))
 | (with_reducible refine AW_region tyOk ?_)
 | (with_reducible refine AOps_cons (fun K hK => ?_))
 | ((with_reducible refine AOps_nil ?_); try simp only [thenA, blockA, if_true, if_false, reduceIte, Nat.reduceEqDiff, reduceCtorEq])
 | (with_reducible refine AW_block ?_)
 | ((first | (with_reducible refine AW_ret ?_) | (with_reducible refine AW_skip ?_) | (with_reducible refine AW_exit ?_)); try simp only [thenA, blockA, if_true, if_false, reduceIte, Nat.reduceEqDiff, reduceCtorEq])
 | ((with_reducible show AW _ _ (.cond _ _ _) _ _ _); refine AW_cond rfl (fun hg => ?_) (fun hg => ?_) <;> first | (exfalso; simp only [reduceCtorEq] at hg; done) | ((try simp only [Bool.not_eq_true', Bool.not_eq_false', decide_eq_true_eq, decide_eq_false_iff_not] at hg); try (exfalso; omega)))
 | ((with_reducible show _ ∧ _); refine And.intro (fun hg => ?_) (fun hg => ?_) <;> (try simp only [Bool.not_eq_true', Bool.not_eq_false'] at hg) <;> simp only [hg] <;> (try simp only [decide_eq_true_eq, decide_eq_false_iff_not] at hg) <;> (try (exfalso; omega)))
 | (clear hK K)
          | fail)
        have hS3 := (hS2.app [(⟨0, false, 2, 1, [.int .i64 (c : Nat)]⟩ : AO)]).pushJ (c : Nat)
        have hbx3 : ((Z ++ [(⟨0, false, 2, 1, [.int .i64 (c : Nat)]⟩ : AO)]).set J ⟨vj + 1, false, 2, 1, t.map (LV.int .i64) ++ [.int .i64 (c : Nat)]⟩)[B]? = some ⟨0, false, 2, 1, [.int .i64 k]⟩ := by rw [List.getElem?_set_ne hBn.2.2]; exact at_appI hbx2 _
        obtain ⟨W, hW3⟩ : ∃ W, (Z ++ [(⟨0, false, 2, 1, [.int .i64 (c : Nat)]⟩ : AO)]).set J ⟨vj + 1, false, 2, 1, t.map (LV.int .i64) ++ [.int .i64 (c : Nat)]⟩ = W := ⟨_, rfl⟩
        rw [hW3] at hS3 hbx3 ⊢
        clear hW3 oJ hap2 hbx2 hS2
        have hlm3 : ((thrL k n s 3).map (LV.int .i64)).length = 3 := by rw [List.length_map, thrL_len]
        repeat' (first
 | ((with_reducible refine hK _ _ ?_); clear hK K)
 | ((first | (with_reducible show AOp _ _ _ _ _ _ _)); simp (disch := first | ((with_reducible show liveO _ _ _ = true); first | assumption | (exact hS.lvA) | (exact hS.lvAA _) | (exact aSl _ _) | (exact hS.ls.lvA) | (exact hS.ls.lvAA _) | (exact hl1) | (exact aS1 _) | (exact liveO_setS (by assumption)) | (exact PtL.live (by assumption)) | (exact PtL.liveA (by assumption) _) | (simp only [go_sem]; done)) | omega | assumption | rfl | (simp only [go_sem]; first | done | omega)) only [go_sem, reduceIte, reduceCtorEq, Nat.reduceAdd, Nat.reduceMul, Nat.reduceSub, Nat.reduceLeDiff, Nat.lt_irrefl, Nat.reduceLT, Nat.reduceEqDiff, Nat.reduceBEq, Int.reduceLE, Int.reduceLT, Int.reduceToNat, w64, eq_self, hget_atI hbx3, thr_put, thr_hgets, thrL_len, int_cells])
 | (with_reducible refine AW_seq (fun K hK => ?_))
 | (with_reducible refine AW_region tyOk ?_)
 | (with_reducible refine AOps_cons (fun K hK => ?_))
 | ((with_reducible refine AOps_nil ?_); try simp only [thenA, blockA, if_true, if_false, reduceIte, Nat.reduceEqDiff, reduceCtorEq])
 | (with_reducible refine AW_block ?_)
 | ((first | (with_reducible refine AW_ret ?_) | (with_reducible refine AW_skip ?_) | (with_reducible refine AW_exit ?_)); try simp only [thenA, blockA, if_true, if_false, reduceIte, Nat.reduceEqDiff, reduceCtorEq])
 | ((with_reducible show AW _ _ (.cond _ _ _) _ _ _); refine AW_cond rfl (fun hg => ?_) (fun hg => ?_) <;> first | (exfalso; simp only [reduceCtorEq] at hg; done) | ((try simp only [Bool.not_eq_true', Bool.not_eq_false', decide_eq_true_eq, decide_eq_false_iff_not] at hg); try (exfalso; omega)))
 | ((with_reducible show _ ∧ _); refine And.intro (fun hg => ?_) (fun hg => ?_) <;> (try simp only [Bool.not_eq_true', Bool.not_eq_false'] at hg) <;> simp only [hg] <;> (try simp only [decide_eq_true_eq, decide_eq_false_iff_not] at hg) <;> (try (exfalso; omega)))
 | ((with_reducible apply FunH_intro); (first | ((with_reducible show FunH _ 25 _ _ _); exact peelPlaces_c k n s hki e3' e4' _)))
 | (clear hK K)
          | fail)
        have hS4 := hS3.app [(⟨0, false, 50, 3, (thrL k n s 3).map (LV.int .i64)⟩ : AO)]
        have hbx4 := at_appI hbx3 [(⟨0, false, 50, 3, (thrL k n s 3).map (LV.int .i64)⟩ : AO)]
        obtain ⟨X0, hX0⟩ : ∃ X0, W ++ [(⟨0, false, 50, 3, (thrL k n s 3).map (LV.int .i64)⟩ : AO)] = X0 := ⟨_, rfl⟩
        rw [hX0] at hS4 hbx4 ⊢
        clear hX0 hbx3 hS3
        refine AW_loopV [22, 111, 112, 113, 114, 115, 116, 117, 118, 119, 120, 121, 122, 123] (fun p : Nat × Hp × List (Nat × Nat × List Int) => [(111, .int .i64 (p.1 : Nat))]) (fun p => p.2.1) (fun p => p.1 ≤ 3 ∧ PSi H p.2.1 A p.2.2 I J (vi + 1) (vj + 1) (o ++ [k]) (t ++ [(c : Int)]) ∧ p.2.1[B]? = some ⟨0, false, 2, 1, [.int .i64 k]⟩ ∧ (∀ q, q < p.2.2.length → (ix p.2.2 q).1 ≠ B) ∧ wRi p.2.2 = rowC M (mixH n s k p.1 (fun c => keepF (fun x => x == k) (holdL n s left c)) (holdL n s left))) (fun p => 3 - p.1) (0, X0, P) ⟨Nat.zero_le _, hS4, hbx4, hBk, by rw [mixH_zero]; exact hW⟩ ?_ rfl ?_
        · simp only [junkAll, setAll, List.foldl_cons, List.foldl_nil, List.set_cons_succ, List.set_cons_zero, JL, true_or, or_true, and_true, true_and, reduceCtorEq, false_or, or_false, LV.int.injEq, LV.bool.injEq, LV.flt.injEq, LV.sl.injEq, LV.ptr.injEq, eq_self, Int.natCast_add, Int.natCast_one, Int.natCast_zero, Int.ofNat_zero]
        clear hS4 hbx4 hBk hW hS hcM hc
        intro ⟨j, X, P⟩ ⟨hj, hS, hbx, hBk, hW⟩ K hK
        simp only at hj hS hbx hBk hW
        have hPl : P.length = M := by rw [← wRi_len P, hW, rowC_len]
        simp only [junkAll, setAll, List.foldl_cons, List.foldl_nil, List.set_cons_succ, List.set_cons_zero]
        by_cases hj3 : j < 3
        · obtain ⟨p0, p1, p2, p3⟩ := pkI_b (k := k) (s := s) e3' hj3
          obtain ⟨c2, hc2⟩ : ∃ c2 : Nat, pkI k n s j = (c2 : Nat) := ⟨(pkI k n s j).toNat, by omega⟩
          have hcM2 : c2 < M := by omega
          have hk2 : c2 < P.length := by omega
          obtain ⟨i2, v2, w2, hi2⟩ : ∃ i1 v1 w1, ix P c2 = (i1, v1, w1) := ⟨_, _, _, rfl⟩
          have hw2 : holdL n s left c2 = w2 := by have := wRi_ix hk2; rw [hW, hi2, rowC_ix hcM2, mixH_at e3' hj3 hc2] at this; exact this
          have hw2n : w2.length ≤ 1048576 := by have q1 := holdL_le (n := n) (s := s) (left := left) c2; have q2 := hG.len; rw [hw2] at q1; omega
          have hcell2 : (P.map cRi)[c2]? = some (.sl i2 v2 0 w2.length none) := by rw [List.getElem?_map, ix_get? _ _ hk2, hi2]; rfl
          have o2 : X[i2]? = some ⟨v2, false, 2, 1, w2.map (LV.int .i64)⟩ := by have := (hS.ls.row c2 hk2).1; rw [hi2] at this; exact this
          have n2A : i2 ≠ A := by have := (hS.ls.row c2 hk2).2.2; rw [hi2] at this; exact this
          have n2B : i2 ≠ B := by have := hBk c2 hk2; rw [hi2] at this; exact this
          have aS : ∀ (o : AO), (X.set i2 o)[A]? = some ⟨0, false, 24, 1, P.map cRi⟩ := fun o => by rw [List.getElem?_set_ne n2A]; exact hS.ls.out
          have aS1 : ∀ (o : AO), liveO (X.set i2 o) A 0 = true := fun o => liveO_atI (aS o)
          have aSp : ∀ (o : AO) (x : LV), hput (X.set i2 o) A 0 c2 [x] = some ((X.set i2 o).set A ⟨0, false, 24, 1, (P.map cRi).set c2 x⟩) := fun o x => hputA_atI (aS o) (by simp; omega)
          have hdl := DeleteFunc_int64_c i2 v2 2 w2.length w2 (fun x => x == k) 29 [.ptr B 0 0] X o2 rfl hw2n (fun x hx Y => PeelKey_c B 0 x k _ ⟨_, _, _, (by rw [List.getElem?_set_ne n2B]; exact hbx)⟩)
          have hS5 := hS.putOld hk2 v2 (keepF (fun x => x == k) w2)
          rw [hi2] at hS5
          have j30 : (0 : Int) ≤ (j : Int) := by omega
          have j33 : (j : Int) < ((3 : Nat) : Int) := by omega
          repeat' (first
 | ((with_reducible refine hK _ _ ?_); clear hK K)
 | ((first | (with_reducible show AOp _ _ _ _ _ _ _)); simp (disch := first | ((with_reducible show liveO _ _ _ = true); first | assumption | (exact hS.lvA) | (exact hS.lvAA _) | (exact aSl _ _) | (exact hS.ls.lvA) | (exact hS.ls.lvAA _) | (exact hl1) | (exact aS1 _) | (exact liveO_setS (by assumption)) | (exact PtL.live (by assumption)) | (exact PtL.liveA (by assumption) _) | (simp only [go_sem]; done)) | omega | assumption | rfl | (simp only [go_sem]; first | done | omega)) only [go_sem, reduceIte, reduceCtorEq, Nat.reduceAdd, Nat.reduceMul, Nat.reduceSub, Nat.reduceLeDiff, Nat.lt_irrefl, Nat.reduceLT, Nat.reduceEqDiff, Nat.reduceBEq, Int.reduceLE, Int.reduceLT, Int.reduceToNat, w64, eq_self, thr_get, j30, j33, hc2, hS.ls.gA, hcell2, aSp, List.size_toArray, Array.size_empty, List.length_nil])
 | (with_reducible refine AW_seq (fun K hK => ?_))
 | (with_reducible refine AW_region tyOk ?_)
 | (with_reducible refine AOps_cons (fun K hK => ?_))
 | ((with_reducible refine AOps_nil ?_); try simp only [thenA, blockA, if_true, if_false, reduceIte, Nat.reduceEqDiff, reduceCtorEq])
 | (with_reducible refine AW_block ?_)
 | ((first | (with_reducible refine AW_ret ?_) | (with_reducible refine AW_skip ?_) | (with_reducible refine AW_exit ?_)); try simp only [thenA, blockA, if_true, if_false, reduceIte, Nat.reduceEqDiff, reduceCtorEq])
 | ((with_reducible show AW _ _ (.cond _ _ _) _ _ _); refine AW_cond rfl (fun hg => ?_) (fun hg => ?_) <;> first | (exfalso; simp only [reduceCtorEq] at hg; done) | ((try simp only [Bool.not_eq_true', Bool.not_eq_false', decide_eq_true_eq, decide_eq_false_iff_not] at hg); try (exfalso; omega)))
 | ((with_reducible show _ ∧ _); refine And.intro (fun hg => ?_) (fun hg => ?_) <;> (try simp only [Bool.not_eq_true', Bool.not_eq_false'] at hg) <;> simp only [hg] <;> (try simp only [decide_eq_true_eq, decide_eq_false_iff_not] at hg) <;> (try (exfalso; omega)))
 | ((with_reducible apply FunH_intro); (first | exact hdl))
 | (clear hK K)
            | fail)
          refine hK _ _ (j + 1, _, P.set c2 (i2, v2, keepF (fun x => x == k) w2)) ⟨by simp only; omega, hS5, ?_, fun q hq => ?_, ?_⟩ (by simp only; omega) ?_ rfl
          · show (List.set _ _ _)[B]? = _
            rw [List.getElem?_set_ne hBn.1, List.getElem?_set_ne n2B]; exact hbx
          · simp only at hq ⊢
            rw [List.length_set] at hq
            rw [ix_setI hq]
            split
            · exact n2B
            · exact hBk q hq
          · show List.map _ (List.set _ _ _) = _
            rw [List.map_set]
            show (wRi P).set c2 (keepF (fun x => x == k) w2) = _
            rw [hW, ← hw2]
            exact rowC_set (f := fun c => keepF (fun x => x == k) (holdL n s left c)) hj3 hc2 hcM2
          · simp only [junkAll, setAll, List.foldl_cons, List.foldl_nil, List.set_cons_succ, List.set_cons_zero, JL, true_or, or_true, and_true, true_and, reduceCtorEq, false_or, or_false, LV.int.injEq, LV.bool.injEq, LV.flt.injEq, LV.sl.injEq, LV.ptr.injEq, eq_self, Int.natCast_add, Int.natCast_one, Int.natCast_zero, Int.ofNat_zero]
        · have hje : j = 3 := by omega
          subst hje
          rw [holdL_out] at hW
          repeat' (first
 | ((with_reducible refine hK _ _ ?_); clear hK K)
 | ((first | (with_reducible show AOp _ _ _ _ _ _ _)); simp (disch := first | ((with_reducible show liveO _ _ _ = true); first | assumption | (exact hS.lvA) | (exact hS.lvAA _) | (exact aSl _ _) | (exact hS.ls.lvA) | (exact hS.ls.lvAA _) | (exact hl1) | (exact aS1 _) | (exact liveO_setS (by assumption)) | (exact PtL.live (by assumption)) | (exact PtL.liveA (by assumption) _) | (simp only [go_sem]; done)) | omega | assumption | rfl | (simp only [go_sem]; first | done | omega)) only [go_sem, reduceIte, reduceCtorEq, Nat.reduceAdd, Nat.reduceMul, Nat.reduceSub, Nat.reduceLeDiff, Nat.lt_irrefl, Nat.reduceLT, Nat.reduceEqDiff, Nat.reduceBEq, Int.reduceLE, Int.reduceLT, Int.reduceToNat, w64, eq_self])
 | (with_reducible refine AW_seq (fun K hK => ?_))
 | (with_reducible refine AW_region tyOk ?_)
 | (with_reducible refine AOps_cons (fun K hK => ?_))
 | ((with_reducible refine AOps_nil ?_); try simp only [thenA, blockA, if_true, if_false, reduceIte, Nat.reduceEqDiff, reduceCtorEq])
 | (with_reducible refine AW_block ?_)
 | ((first | (with_reducible refine AW_ret ?_) | (with_reducible refine AW_skip ?_) | (with_reducible refine AW_exit ?_)); try simp only [thenA, blockA, if_true, if_false, reduceIte, Nat.reduceEqDiff, reduceCtorEq])
 | ((with_reducible show AW _ _ (.cond _ _ _) _ _ _); refine AW_cond rfl (fun hg => ?_) (fun hg => ?_) <;> first | (exfalso; simp only [reduceCtorEq] at hg; done) | ((try simp only [Bool.not_eq_true', Bool.not_eq_false', decide_eq_true_eq, decide_eq_false_iff_not] at hg); try (exfalso; omega)))
 | ((with_reducible show _ ∧ _); refine And.intro (fun hg => ?_) (fun hg => ?_) <;> (try simp only [Bool.not_eq_true', Bool.not_eq_false'] at hg) <;> simp only [hg] <;> (try simp only [decide_eq_true_eq, decide_eq_false_iff_not] at hg) <;> (try (exfalso; omega)))
 | (clear hK K)
            | fail)
          refine hK _ _ (r + 1, X, P, (vi + 1, vj + 1), left.filter (fun x => !(x == k)), o ++ [k], t ++ [(c : Int)]) ⟨by simp only; omega, hS, hW, hG'⟩ (by simp only; omega) ?_ rfl
          simp only [junkAll, setAll, List.foldl_cons, List.foldl_nil, List.set_cons_succ, List.set_cons_zero, JL, true_or, or_true, and_true, true_and, reduceCtorEq, false_or, or_false, LV.int.injEq, LV.bool.injEq, LV.flt.injEq, LV.sl.injEq, LV.ptr.injEq, eq_self, Int.natCast_add, Int.natCast_one, Int.natCast_zero, Int.ofNat_zero]
    · have hrL2 : r = L := by omega
      subst hrL2
      have hRe : R = some (o, t) := by rw [← hG.eq, Nat.sub_self]; rfl
      subst hRe
      simp only [Option.isSome_some]
      rw [hG.lo]
      repeat' (first
 | ((with_reducible refine hK _ _ ?_); clear hK K)
 | ((first | (with_reducible show AOp _ _ _ _ _ _ _)); simp (disch := first | ((with_reducible show liveO _ _ _ = true); first | assumption | (exact hS.lvA) | (exact hS.lvAA _) | (exact aSl _ _) | (exact hS.ls.lvA) | (exact hS.ls.lvAA _) | (exact hl1) | (exact aS1 _) | (exact liveO_setS (by assumption)) | (exact PtL.live (by assumption)) | (exact PtL.liveA (by assumption) _) | (simp only [go_sem]; done)) | omega | assumption | rfl | (simp only [go_sem]; first | done | omega)) only [go_sem, reduceIte, reduceCtorEq, Nat.reduceAdd, Nat.reduceMul, Nat.reduceSub, Nat.reduceLeDiff, Nat.lt_irrefl, Nat.reduceLT, Nat.reduceEqDiff, Nat.reduceBEq, Int.reduceLE, Int.reduceLT, Int.reduceToNat, w64, eq_self, hw3, hmk])
 | (with_reducible refine AW_seq (fun K hK => ?_))
 | (with_reducible refine AW_region tyOk ?_)
 | (with_reducible refine AOps_cons (fun K hK => ?_))
 | ((with_reducible refine AOps_nil ?_); try simp only [thenA, blockA, if_true, if_false, reduceIte, Nat.reduceEqDiff, reduceCtorEq])
 | (with_reducible refine AW_block ?_)
 | ((first | (with_reducible refine AW_ret ?_) | (with_reducible refine AW_skip ?_) | (with_reducible refine AW_exit ?_)); try simp only [thenA, blockA, if_true, if_false, reduceIte, Nat.reduceEqDiff, reduceCtorEq])
 | ((with_reducible show AW _ _ (.cond _ _ _) _ _ _); refine AW_cond rfl (fun hg => ?_) (fun hg => ?_) <;> first | (exfalso; simp only [reduceCtorEq] at hg; done) | ((try simp only [Bool.not_eq_true', Bool.not_eq_false', decide_eq_true_eq, decide_eq_false_iff_not] at hg); try (exfalso; omega)))
 | ((with_reducible show _ ∧ _); refine And.intro (fun hg => ?_) (fun hg => ?_) <;> (try simp only [Bool.not_eq_true', Bool.not_eq_false'] at hg) <;> simp only [hg] <;> (try simp only [decide_eq_true_eq, decide_eq_false_iff_not] at hg) <;> (try (exfalso; omega)))
 | (clear hK K)
        | fail)
      have hro : RdL X (.sl I vi 0 r none) (o.map (LV.int .i64)) := RdL_id hS.o1 (by rw [List.length_map, hG.lo])
      have hrt : RdL X (.sl J vj 0 r none) (t.map (LV.int .i64)) := RdL_id hS.t1 (by rw [List.length_map, hG.lt])
      have hlo := hG.lo
      have hlt := hG.lt
      have hz0 : List.replicate M (LV.int .i64 0) = (outS n s o t 0).map (LV.int .i64) := by rw [← hM]; exact List.map_replicate.symm
      refine AW_loopV [24, 25, 26, 28, 131, 132, 133, 134, 135, 136, 137, 138, 139, 140, 141, 142, 143, 144, 145, 146, 147, 148, 149, 150, 151, 152, 153, 154, 155, 156, 157, 158, 159, 160, 161, 162, 163, 164, 165, 166, 167, 168] (fun p : Nat × Hp => [(24, .int .i64 ((r : Int) - 1 - (p.1 : Nat)))]) (fun p => X ++ (⟨0, false, 2, 1, (outS n s o t p.1).map (LV.int .i64)⟩ :: p.2)) (fun p => p.1 ≤ r) (fun p => r - p.1) (0, []) (Nat.zero_le _) ?_ ?_ ?_
      · simp only [junkAll, setAll, List.foldl_cons, List.foldl_nil, List.set_cons_succ, List.set_cons_zero, JL, true_or, or_true, and_true, true_and, reduceCtorEq, false_or, or_false, LV.int.injEq, LV.bool.injEq, LV.flt.injEq, LV.sl.injEq, LV.ptr.injEq, eq_self, Int.natCast_add, Int.natCast_one, Int.natCast_zero, Int.ofNat_zero]
        omega
      · rw [hz0]
      intro ⟨q, G⟩ hq K hK
      simp only at hq
      simp only [junkAll, setAll, List.foldl_cons, List.foldl_nil, List.set_cons_succ, List.set_cons_zero]
      by_cases hqr : q < r
      · obtain ⟨e, he⟩ : ∃ e : Nat, (r : Int) - 1 - (q : Nat) = (e : Nat) := ⟨r - 1 - q, by omega⟩
        have heN : o.length - 1 - q = e := by omega
        have her : e < r := by omega
        have hko := hG.key.2 (ix o e) (ix_mem o e (by omega))
        have htb := hG.tb (ix t e) (ix_mem t e (by omega))
        have hso : outS n s o t (q + 1) = (outS n s o t q).set (ix t e).toNat (xorF (thrL (ix o e) n s 3) (ix t e) (mkI (ix o e) s) (outS n s o t q) 3) := by
          show (outS n s o t q).set _ _ = _
          rw [heN]
        obtain ⟨k, hk⟩ : ∃ k, ix o e = k := ⟨_, rfl⟩
        obtain ⟨c, hc⟩ : ∃ c : Nat, ix t e = (c : Nat) := ⟨(ix t e).toNat, by omega⟩
        have hlm3 : ((thrL k n s 3).map (LV.int .i64)).length = 3 := by rw [List.length_map, thrL_len]
        rw [hk] at hko hso
        rw [hc] at htb hso
        rw [Int.toNat_natCast] at hso
        rw [he]
        repeat' (first
 | ((with_reducible refine hK _ _ ?_); clear hK K)
 | ((first | (with_reducible show AOp _ _ _ _ _ _ _)); simp (disch := first | ((with_reducible show liveO _ _ _ = true); first | assumption | (exact hS.lvA) | (exact hS.lvAA _) | (exact aSl _ _) | (exact hS.ls.lvA) | (exact hS.ls.lvAA _) | (exact hl1) | (exact aS1 _) | (exact liveO_setS (by assumption)) | (exact PtL.live (by assumption)) | (exact PtL.liveA (by assumption) _) | (simp only [go_sem]; done)) | omega | assumption | rfl | (simp only [go_sem]; first | done | omega)) only [go_sem, reduceIte, reduceCtorEq, Nat.reduceAdd, Nat.reduceMul, Nat.reduceSub, Nat.reduceLeDiff, Nat.lt_irrefl, Nat.reduceLT, Nat.reduceEqDiff, Nat.reduceBEq, Int.reduceLE, Int.reduceLT, Int.reduceToNat, w64, eq_self, hro.idxmA, hro.ldmA, hlo, hk, thr_put, thr_hgets, thrL_len, int_cells])
 | (with_reducible refine AW_seq (fun K hK => ?_))
 | (with_reducible refine AW_region tyOk ?_)
 | (with_reducible refine AOps_cons (fun K hK => ?_))
 | ((with_reducible refine AOps_nil ?_); try simp only [thenA, blockA, if_true, if_false, reduceIte, Nat.reduceEqDiff, reduceCtorEq])
 | (with_reducible refine AW_block ?_)
 | ((first | (with_reducible refine AW_ret ?_) | (with_reducible refine AW_skip ?_) | (with_reducible refine AW_exit ?_)); try simp only [thenA, blockA, if_true, if_false, reduceIte, Nat.reduceEqDiff, reduceCtorEq])
 | ((with_reducible show AW _ _ (.cond _ _ _) _ _ _); refine AW_cond rfl (fun hg => ?_) (fun hg => ?_) <;> first | (exfalso; simp only [reduceCtorEq] at hg; done) | ((try simp only [Bool.not_eq_true', Bool.not_eq_false', decide_eq_true_eq, decide_eq_false_iff_not] at hg); try (exfalso; omega)))
 | ((with_reducible show _ ∧ _); refine And.intro (fun hg => ?_) (fun hg => ?_) <;> (try simp only [Bool.not_eq_true', Bool.not_eq_false'] at hg) <;> simp only [hg] <;> (try simp only [decide_eq_true_eq, decide_eq_false_iff_not] at hg) <;> (try (exfalso; omega)))
 | ((with_reducible apply FunH_intro); (first | ((with_reducible show FunH _ 25 _ _ _); exact peelPlaces_c k n s hko e3' e4' _)))
 | (clear hK K)
          | fail)
        obtain ⟨G', hG'⟩ : ∃ G', G ++ [(⟨0, false, 50, 3, (thrL k n s 3).map (LV.int .i64)⟩ : AO)] = G' := ⟨_, rfl⟩
        rw [hG']
        have hol : (outS n s o t q).length = M := by rw [outS_len, hM]
        have holm : ((outS n s o t q).map (LV.int .i64)).length = M := by rw [List.length_map, hol]
        refine AW_loopV [26, 28, 146, 147, 148, 149, 150, 151, 152, 153, 154, 155, 156, 157, 158, 159, 160, 161] (fun j : Nat => [(26, .int .i64 (xorF (thrL k n s 3) (c : Nat) (mkI k s) (outS n s o t q) j)), (146, .int .i64 (j : Nat))]) (fun j => X ++ (⟨0, false, 2, 1, (outS n s o t q).map (LV.int .i64)⟩ :: G')) (fun j => j ≤ 3) (fun j => 3 - j) 0 (Nat.zero_le _) ?_ rfl ?_
        · simp only [junkAll, setAll, List.foldl_cons, List.foldl_nil, List.set_cons_succ, List.set_cons_zero, JL, true_or, or_true, and_true, true_and, reduceCtorEq, false_or, or_false, LV.int.injEq, LV.bool.injEq, LV.flt.injEq, LV.sl.injEq, LV.ptr.injEq, eq_self, Int.natCast_add, Int.natCast_one, Int.natCast_zero, Int.ofNat_zero]
          rfl
        intro j hj K hK
        simp only [junkAll, setAll, List.foldl_cons, List.foldl_nil, List.set_cons_succ, List.set_cons_zero]
        by_cases hj3 : j < 3
        · obtain ⟨p0, p1, p2, p3⟩ := pkI_b (k := k) (s := s) e3' hj3
          obtain ⟨c2, hc2⟩ : ∃ c2 : Nat, pkI k n s j = (c2 : Nat) := ⟨(pkI k n s j).toNat, by omega⟩
          have hcM2 : c2 < M := by omega
          have hcx := thr_ix k n s hj3
          rw [hc2] at hcx
          have hcg := int_get (xs := outS n s o t q) (i := c2) (by omega)
          have j30 : (0 : Int) ≤ (j : Int) := by omega
          have j33 : (j : Int) < ((3 : Nat) : Int) := by omega
          by_cases hcc : c2 = c
          · have hne : (((c2 : Nat) : Int) != ((c : Nat) : Int)) = false := by rw [hcc]; simp
            have hxs := xorF_same (mk := mkI k s) (out := outS n s o t q) (hcx.trans (congrArg Int.ofNat hcc))
            repeat' (first
 | ((with_reducible refine hK _ _ ?_); clear hK K)
 | ((first | (with_reducible show AOp _ _ _ _ _ _ _)); simp (disch := first | ((with_reducible show liveO _ _ _ = true); first | assumption | (exact hS.lvA) | (exact hS.lvAA _) | (exact aSl _ _) | (exact hS.ls.lvA) | (exact hS.ls.lvAA _) | (exact hl1) | (exact aS1 _) | (exact liveO_setS (by assumption)) | (exact PtL.live (by assumption)) | (exact PtL.liveA (by assumption) _) | (simp only [go_sem]; done)) | omega | assumption | rfl | (simp only [go_sem]; first | done | omega)) only [go_sem, reduceIte, reduceCtorEq, Nat.reduceAdd, Nat.reduceMul, Nat.reduceSub, Nat.reduceLeDiff, Nat.lt_irrefl, Nat.reduceLT, Nat.reduceEqDiff, Nat.reduceBEq, Int.reduceLE, Int.reduceLT, Int.reduceToNat, w64, eq_self, thr_get, j30, j33, hc2, hrt.idxmA, hrt.ldmA, hlt, hc, hne])
 | (with_reducible refine AW_seq (fun K hK => ?_))
 | (with_reducible refine AW_region tyOk ?_)
 | (with_reducible refine AOps_cons (fun K hK => ?_))
 | ((with_reducible refine AOps_nil ?_); try simp only [thenA, blockA, if_true, if_false, reduceIte, Nat.reduceEqDiff, reduceCtorEq])
 | (with_reducible refine AW_block ?_)
 | ((first | (with_reducible refine AW_ret ?_) | (with_reducible refine AW_skip ?_) | (with_reducible refine AW_exit ?_)); try simp only [thenA, blockA, if_true, if_false, reduceIte, Nat.reduceEqDiff, reduceCtorEq])
 | ((with_reducible show AW _ _ (.cond _ _ _) _ _ _); refine AW_cond rfl (fun hg => ?_) (fun hg => ?_) <;> first | (exfalso; simp only [reduceCtorEq] at hg; done) | ((try simp only [Bool.not_eq_true', Bool.not_eq_false', decide_eq_true_eq, decide_eq_false_iff_not] at hg); try (exfalso; omega)))
 | ((with_reducible show _ ∧ _); refine And.intro (fun hg => ?_) (fun hg => ?_) <;> (try simp only [Bool.not_eq_true', Bool.not_eq_false'] at hg) <;> simp only [hg] <;> (try simp only [decide_eq_true_eq, decide_eq_false_iff_not] at hg) <;> (try (exfalso; omega)))
 | (clear hK K)
              | fail)
            refine hK _ _ (j + 1) (by omega) (by omega) ?_ rfl
            simp only [junkAll, setAll, List.foldl_cons, List.foldl_nil, List.set_cons_succ, List.set_cons_zero, JL, true_or, or_true, and_true, true_and, reduceCtorEq, false_or, or_false, LV.int.injEq, LV.bool.injEq, LV.flt.injEq, LV.sl.injEq, LV.ptr.injEq, eq_self, Int.natCast_add, Int.natCast_one, Int.natCast_zero, Int.ofNat_zero]
            exact hxs.symm
          · have hne : (((c2 : Nat) : Int) != ((c : Nat) : Int)) = true := by simp; omega
            have hxs := xorF_next (cells := thrL k n s 3) (tk := (c : Nat)) (mk := mkI k s) (out := outS n s o t q) (j := j) (by rw [hcx]; omega)
            rw [hcx, Int.toNat_natCast] at hxs
            repeat' (first
 | ((with_reducible refine hK _ _ ?_); clear hK K)
 | ((first | (with_reducible show AOp _ _ _ _ _ _ _)); simp (disch := first | ((with_reducible show liveO _ _ _ = true); first | assumption | (exact hS.lvA) | (exact hS.lvAA _) | (exact aSl _ _) | (exact hS.ls.lvA) | (exact hS.ls.lvAA _) | (exact hl1) | (exact aS1 _) | (exact liveO_setS (by assumption)) | (exact PtL.live (by assumption)) | (exact PtL.liveA (by assumption) _) | (simp only [go_sem]; done)) | omega | assumption | rfl | (simp only [go_sem]; first | done | omega)) only [go_sem, reduceIte, reduceCtorEq, Nat.reduceAdd, Nat.reduceMul, Nat.reduceSub, Nat.reduceLeDiff, Nat.lt_irrefl, Nat.reduceLT, Nat.reduceEqDiff, Nat.reduceBEq, Int.reduceLE, Int.reduceLT, Int.reduceToNat, w64, eq_self, thr_get, j30, j33, hc2, hrt.idxmA, hrt.ldmA, hlt, hc, hne, hcg, holm])
 | (with_reducible refine AW_seq (fun K hK => ?_))
 | (with_reducible refine AW_region tyOk ?_)
 | (with_reducible refine AOps_cons (fun K hK => ?_))
 | ((with_reducible refine AOps_nil ?_); try simp only [thenA, blockA, if_true, if_false, reduceIte, Nat.reduceEqDiff, reduceCtorEq])
 | (with_reducible refine AW_block ?_)
 | ((first | (with_reducible refine AW_ret ?_) | (with_reducible refine AW_skip ?_) | (with_reducible refine AW_exit ?_)); try simp only [thenA, blockA, if_true, if_false, reduceIte, Nat.reduceEqDiff, reduceCtorEq])
 | ((with_reducible show AW _ _ (.cond _ _ _) _ _ _); refine AW_cond rfl (fun hg => ?_) (fun hg => ?_) <;> first | (exfalso; simp only [reduceCtorEq] at hg; done) | ((try simp only [Bool.not_eq_true', Bool.not_eq_false', decide_eq_true_eq, decide_eq_false_iff_not] at hg); try (exfalso; omega)))
 | ((with_reducible show _ ∧ _); refine And.intro (fun hg => ?_) (fun hg => ?_) <;> (try simp only [Bool.not_eq_true', Bool.not_eq_false'] at hg) <;> simp only [hg] <;> (try simp only [decide_eq_true_eq, decide_eq_false_iff_not] at hg) <;> (try (exfalso; omega)))
 | (clear hK K)
              | fail)
            refine hK _ _ (j + 1) (by omega) (by omega) ?_ rfl
            simp only [junkAll, setAll, List.foldl_cons, List.foldl_nil, List.set_cons_succ, List.set_cons_zero, JL, true_or, or_true, and_true, true_and, reduceCtorEq, false_or, or_false, LV.int.injEq, LV.bool.injEq, LV.flt.injEq, LV.sl.injEq, LV.ptr.injEq, eq_self, Int.natCast_add, Int.natCast_one, Int.natCast_zero, Int.ofNat_zero]
            exact hxs.symm
        · have hje : j = 3 := by omega
          subst hje
          have hst : ((outS n s o t q).map (LV.int .i64)).set c (.int .i64 (xorF (thrL k n s 3) (c : Nat) (mkI k s) (outS n s o t q) 3)) = (outS n s o t (q + 1)).map (LV.int .i64) := by rw [hso, List.map_set]
          have hcM3 : c < M := by omega
          repeat' (first
 | ((with_reducible refine hK _ _ ?_); clear hK K)
 | ((first | (with_reducible show AOp _ _ _ _ _ _ _)); simp (disch := first | ((with_reducible show liveO _ _ _ = true); first | assumption | (exact hS.lvA) | (exact hS.lvAA _) | (exact aSl _ _) | (exact hS.ls.lvA) | (exact hS.ls.lvAA _) | (exact hl1) | (exact aS1 _) | (exact liveO_setS (by assumption)) | (exact PtL.live (by assumption)) | (exact PtL.liveA (by assumption) _) | (simp only [go_sem]; done)) | omega | assumption | rfl | (simp only [go_sem]; first | done | omega)) only [go_sem, reduceIte, reduceCtorEq, Nat.reduceAdd, Nat.reduceMul, Nat.reduceSub, Nat.reduceLeDiff, Nat.lt_irrefl, Nat.reduceLT, Nat.reduceEqDiff, Nat.reduceBEq, Int.reduceLE, Int.reduceLT, Int.reduceToNat, w64, eq_self, hrt.idxmA, hrt.ldmA, hlt, hc, holm, hst])
 | (with_reducible refine AW_seq (fun K hK => ?_))
 | (with_reducible refine AW_region tyOk ?_)
 | (with_reducible refine AOps_cons (fun K hK => ?_))
 | ((with_reducible refine AOps_nil ?_); try simp only [thenA, blockA, if_true, if_false, reduceIte, Nat.reduceEqDiff, reduceCtorEq])
 | (with_reducible refine AW_block ?_)
 | ((first | (with_reducible refine AW_ret ?_) | (with_reducible refine AW_skip ?_) | (with_reducible refine AW_exit ?_)); try simp only [thenA, blockA, if_true, if_false, reduceIte, Nat.reduceEqDiff, reduceCtorEq])
 | ((with_reducible show AW _ _ (.cond _ _ _) _ _ _); refine AW_cond rfl (fun hg => ?_) (fun hg => ?_) <;> first | (exfalso; simp only [reduceCtorEq] at hg; done) | ((try simp only [Bool.not_eq_true', Bool.not_eq_false', decide_eq_true_eq, decide_eq_false_iff_not] at hg); try (exfalso; omega)))
 | ((with_reducible show _ ∧ _); refine And.intro (fun hg => ?_) (fun hg => ?_) <;> (try simp only [Bool.not_eq_true', Bool.not_eq_false'] at hg) <;> simp only [hg] <;> (try simp only [decide_eq_true_eq, decide_eq_false_iff_not] at hg) <;> (try (exfalso; omega)))
 | (clear hK K)
            | fail)
          refine hK _ _ (q + 1, G') (by simp only; omega) (by simp only; omega) ?_ rfl
          simp only [junkAll, setAll, List.foldl_cons, List.foldl_nil, List.set_cons_succ, List.set_cons_zero, JL, true_or, or_true, and_true, true_and, reduceCtorEq, false_or, or_false, LV.int.injEq, LV.bool.injEq, LV.flt.injEq, LV.sl.injEq, LV.ptr.injEq, eq_self, Int.natCast_add, Int.natCast_one, Int.natCast_zero, Int.ofNat_zero]
          omega
      · have hqe : q = r := by omega
        have hqe' : ((r : Int) - 1 - (q : Nat)) < 0 := by omega
        repeat' (first
 | ((with_reducible refine hK _ _ ?_); clear hK K)
 | ((first | (with_reducible show AOp _ _ _ _ _ _ _)); simp (disch := first | ((with_reducible show liveO _ _ _ = true); first | assumption | (exact hS.lvA) | (exact hS.lvAA _) | (exact aSl _ _) | (exact hS.ls.lvA) | (exact hS.ls.lvAA _) | (exact hl1) | (exact aS1 _) | (exact liveO_setS (by assumption)) | (exact PtL.live (by assumption)) | (exact PtL.liveA (by assumption) _) | (simp only [go_sem]; done)) | omega | assumption | rfl | (simp only [go_sem]; first | done | omega)) only [go_sem, reduceIte, reduceCtorEq, Nat.reduceAdd, Nat.reduceMul, Nat.reduceSub, Nat.reduceLeDiff, Nat.lt_irrefl, Nat.reduceLT, Nat.reduceEqDiff, Nat.reduceBEq, Int.reduceLE, Int.reduceLT, Int.reduceToNat, w64, eq_self, hqe'])
 | (with_reducible refine AW_seq (fun K hK => ?_))
 | (with_reducible refine AW_region tyOk ?_)
 | (with_reducible refine AOps_cons (fun K hK => ?_))
 | ((with_reducible refine AOps_nil ?_); try simp only [thenA, blockA, if_true, if_false, reduceIte, Nat.reduceEqDiff, reduceCtorEq])
 | (with_reducible refine AW_block ?_)
 | ((first | (with_reducible refine AW_ret ?_) | (with_reducible refine AW_skip ?_) | (with_reducible refine AW_exit ?_)); try simp only [thenA, blockA, if_true, if_false, reduceIte, Nat.reduceEqDiff, reduceCtorEq])
 | ((with_reducible show AW _ _ (.cond _ _ _) _ _ _); refine AW_cond rfl (fun hg => ?_) (fun hg => ?_) <;> first | (exfalso; simp only [reduceCtorEq] at hg; done) | ((try simp only [Bool.not_eq_true', Bool.not_eq_false', decide_eq_true_eq, decide_eq_false_iff_not] at hg); try (exfalso; omega)))
 | ((with_reducible show _ ∧ _); refine And.intro (fun hg => ?_) (fun hg => ?_) <;> (try simp only [Bool.not_eq_true', Bool.not_eq_false'] at hg) <;> simp only [hg] <;> (try simp only [decide_eq_true_eq, decide_eq_false_iff_not] at hg) <;> (try (exfalso; omega)))
 | (clear hK K)
          | fail)
        have hKg : (KZ ++ (⟨0, false, 2, 1, (outS n s o t q).map (LV.int .i64)⟩ : AO) :: G)[KZ.length]? = some ⟨0, false, 2, 1, (outS n s o t q).map (LV.int .i64)⟩ := by simp
        have hXl : X.length = H.length + KZ.length := by rw [hKZ, List.length_append]
        rw [hXl]
        rw [hKZ, List.append_assoc]
        refine EndA_rows [some KZ.length] hcl (by first | exact Or.inr rfl | exact Or.inl rfl) (by simp only [Try.results11, resA, aresL, go_sem] <;> rfl) (by simp) ?_ ?_ ⟨rfl, rfl⟩
        · refine ⟨RowOk.eq hKg ?_ (scal_int _ _), trivial⟩
          rw [hqe, ← hlo]
        · refine TdT.tup ⟨TdL.cell ?_, TdL.cell ?_, trivial⟩
          · rw [outS_len, hM]
            exact TdB.own 0 KZ.length _ _ _ _ rfl _ hKg rfl
          · exact TdB.old _ trivial rfl
end Go.Proofs.Ythcbbnigpkkkiaa
