/- NewWindow in the abstract machine. -/
import Derived.Test.YtldbojmonegdbaaBm
namespace Go.Proofs.Ytldbojmonegdbaa
open Go.RowKit
set_option linter.unusedSimpArgs false
set_option linter.unusedVariables false
set_option maxRecDepth 100000

theorem winB_nil (l p : Int) : winB l p [] [] = (inB l 1 1000000 && inB p 1 16) := by
  have h1 : timesB [] = true := rfl
  have h2 : sizesB [] p = true := rfl
  simp [winB, h1, h2]
def nwB (l p : Int) : Bool := inB l 1 1000000 && inB p 1 16
def noI : List Int := []
theorem iNewWindow_c (l p : Int) (H : Hp) :
    FunH Try.prog 24 [.int .i64 l, .int .i64 p] H fun r H' => r = .tup [.agg [.int .i64 (if nwB l p then l else 0), .int .i64 (if nwB l p then p else 0), .sl H.length 0 0 noI.length none, .sl (H.length + 1) 0 0 noI.length none], .bool (nwB l p)] ∧ H' = H ++ [⟨0, false, 2, 1, noI.map (LV.int .i64)⟩, ⟨0, false, 2, 1, noI.map (LV.int .i64)⟩] := by
  have key : FunH Try.prog 24 [.int .i64 l, .int .i64 p] H fun r H' => r = .tup [.agg [.int .i64 (if nwB l p then l else 0), .int .i64 (if nwB l p then p else 0), .sl H.length 0 0 0 none, .sl (H.length + 1) 0 0 0 none], .bool (nwB l p)] ∧ H' = H ++ [⟨0, false, 2, 1, []⟩, ⟨0, false, 2, 1, []⟩] := by
    cases e : nwB l p
    · simp only [Bool.false_eq_true, if_false]
      have e' := e
      unfold nwB at e'
      (refine FunH_body tyOk Try.func24 rfl (by kernel_rfl) Try.ntmps24 (fun hcl hbd => ?_); simp only [List.length_cons, List.length_nil, Nat.reduceAdd, Nat.reduceSub, List.replicate, List.cons_append, List.nil_append])
      repeat' (first
        | ((with_reducible refine hK _ _ ?_); clear hK K)
        | ((first | (with_reducible show AOp _ _ _ _ _ _ _)); simp (disch := first | omega | assumption | rfl | (exact liveO_setS (by assumption)) | (exact PtL.live (by assumption)) | (exact PtL.liveA (by assumption) _) | (simp only [go_sem]; first | done | omega)) only [go_sem, reduceIte, reduceCtorEq, Nat.reduceAdd, Nat.reduceMul, Nat.reduceSub, Nat.reduceLeDiff, Nat.lt_irrefl, Nat.reduceLT, Nat.reduceEqDiff, Nat.reduceBEq, Int.reduceLE, Int.reduceLT, Int.reduceToNat, w64, eq_self, e', winB_nil])
        | (with_reducible refine AW_seq (fun K hK => ?_))
        | (with_reducible refine AW_region tyOk ?_)
        | (with_reducible refine AOps_cons (fun K hK => ?_))
        | ((with_reducible refine AOps_nil ?_); try simp (disch := first | omega | assumption | rfl | (exact liveO_setS (by assumption)) | (exact PtL.live (by assumption)) | (exact PtL.liveA (by assumption) _) | (simp only [thenA, blockA, go_sem]; first | done | omega)) only [thenA, blockA, go_sem, reduceIte, reduceCtorEq, Nat.reduceAdd, Nat.reduceMul, Nat.reduceSub, Nat.reduceLeDiff, Nat.lt_irrefl, Nat.reduceLT, Nat.reduceEqDiff, Nat.reduceBEq, Int.reduceLE, Int.reduceLT, Int.reduceToNat, w64, eq_self, e', winB_nil])
        | (with_reducible refine AW_block ?_)
        | ((first | (with_reducible refine AW_ret ?_) | (with_reducible refine AW_skip ?_) | (with_reducible refine AW_exit ?_)); try simp only [thenA, blockA, if_true, if_false, reduceIte, Nat.reduceEqDiff, reduceCtorEq])
        | ((with_reducible show AW _ _ (.cond _ _ _) _ _ _); refine AW_cond rfl (fun hg => ?_) (fun hg => ?_) <;> first | (exfalso; simp only [reduceCtorEq] at hg; done) | ((try simp only [Bool.not_eq_true', Bool.not_eq_false', decide_eq_true_eq, decide_eq_false_iff_not] at hg); try (exfalso; omega)))
        | ((with_reducible show _ ∧ _); refine And.intro (fun hg => ?_) (fun hg => ?_) <;> (try simp only [Bool.not_eq_true', Bool.not_eq_false'] at hg) <;> simp only [hg] <;> (try simp only [decide_eq_true_eq, decide_eq_false_iff_not] at hg) <;> (try (exfalso; omega)))
        | ((with_reducible apply FunH_intro); (first | exact iValidWindow_c _ _ _ _ [] [] _ RdL_nil RdL_nil (by simp) (by simp) | exact iValidWindow_c _ _ _ _ _ _ _ (by first | assumption | exact RdL.app (by assumption) _ | exact RdL_hj rfl (by simp) | exact RdL_h0 rfl (by simp) | exact RdL_nil | exact RdL_emp) (by first | assumption | exact RdL.app (by assumption) _ | exact RdL_hj rfl (by simp) | exact RdL_h0 rfl (by simp) | exact RdL_nil | exact RdL_emp) (by first | assumption | omega | (simp; omega) | (simp; done)) (by first | assumption | omega | (simp; omega) | (simp; done))))
        | (clear hK K)
        | fail)
      all_goals try (exfalso; (try clear hK K); clear hcl hbd; grind [nwB])
      all_goals (
        first | (refine EndA_rows0 [none, none] hcl (by first | exact Or.inr rfl | exact Or.inl rfl) (by simp only [Try.results24, resA, aresL, go_sem, reduceIte, reduceCtorEq, Nat.reduceAdd, Nat.reduceMul, Nat.reduceSub, Nat.reduceLeDiff, Nat.lt_irrefl, Nat.reduceLT, Nat.reduceEqDiff, Nat.reduceBEq, Int.reduceLE, Int.reduceLT, Int.reduceToNat, w64, eq_self] <;> rfl) (by decide) ?_ ?_ ⟨rfl, rfl⟩) | (refine EndA_rows [none, none] hcl (by first | exact Or.inr rfl | exact Or.inl rfl) (by simp only [Try.results24, resA, aresL, go_sem, reduceIte, reduceCtorEq, Nat.reduceAdd, Nat.reduceMul, Nat.reduceSub, Nat.reduceLeDiff, Nat.lt_irrefl, Nat.reduceLT, Nat.reduceEqDiff, Nat.reduceBEq, Int.reduceLE, Int.reduceLT, Int.reduceToNat, w64, eq_self] <;> rfl) (by decide) ?_ ?_ ⟨rfl, rfl⟩)
        rotate_left
        · repeat' (first | exact trivial | apply TdT.tup | apply TdT.one | apply TdL.agg | apply TdL.cell | exact TdB.old _ trivial rfl | exact TdB.virt 0 rfl | exact TdB.virt 1 rfl | exact TdB.junk _ | exact TdB.old _ (by assumption) (by assumption) | refine And.intro ?_ ?_)
        all_goals (repeat' (first | (with_reducible exact RowOk.none) | ((with_reducible apply RowOk.emp); exact rfl) | ((with_reducible apply RowOk.eq); (exact rfl); rotate_left; (first | (with_reducible exact scal_int _ _) | (with_reducible exact scal_flt _ _) | (with_reducible exact scal_bool _) | (intro c hc; cases hc; done) | (simp [LV.isCell, bnd]; done))) | exact trivial | refine And.intro ?_ ?_))
        all_goals (try rfl))
    · simp only [if_true]
      have e' : inB l 1 1000000 = true ∧ inB p 1 16 = true := by unfold nwB at e; simpa using e
      (refine FunH_body tyOk Try.func24 rfl (by kernel_rfl) Try.ntmps24 (fun hcl hbd => ?_); simp only [List.length_cons, List.length_nil, Nat.reduceAdd, Nat.reduceSub, List.replicate, List.cons_append, List.nil_append])
      repeat' (first
        | ((with_reducible refine hK _ _ ?_); clear hK K)
        | ((first | (with_reducible show AOp _ _ _ _ _ _ _)); simp (disch := first | omega | assumption | rfl | (exact liveO_setS (by assumption)) | (exact PtL.live (by assumption)) | (exact PtL.liveA (by assumption) _) | (simp only [go_sem]; first | done | omega)) only [go_sem, reduceIte, reduceCtorEq, Nat.reduceAdd, Nat.reduceMul, Nat.reduceSub, Nat.reduceLeDiff, Nat.lt_irrefl, Nat.reduceLT, Nat.reduceEqDiff, Nat.reduceBEq, Int.reduceLE, Int.reduceLT, Int.reduceToNat, w64, eq_self, e'.1, e'.2, winB_nil])
        | (with_reducible refine AW_seq (fun K hK => ?_))
        | (with_reducible refine AW_region tyOk ?_)
        | (with_reducible refine AOps_cons (fun K hK => ?_))
        | ((with_reducible refine AOps_nil ?_); try simp (disch := first | omega | assumption | rfl | (exact liveO_setS (by assumption)) | (exact PtL.live (by assumption)) | (exact PtL.liveA (by assumption) _) | (simp only [thenA, blockA, go_sem]; first | done | omega)) only [thenA, blockA, go_sem, reduceIte, reduceCtorEq, Nat.reduceAdd, Nat.reduceMul, Nat.reduceSub, Nat.reduceLeDiff, Nat.lt_irrefl, Nat.reduceLT, Nat.reduceEqDiff, Nat.reduceBEq, Int.reduceLE, Int.reduceLT, Int.reduceToNat, w64, eq_self, e'.1, e'.2, winB_nil])
        | (with_reducible refine AW_block ?_)
        | ((first | (with_reducible refine AW_ret ?_) | (with_reducible refine AW_skip ?_) | (with_reducible refine AW_exit ?_)); try simp only [thenA, blockA, if_true, if_false, reduceIte, Nat.reduceEqDiff, reduceCtorEq])
        | ((with_reducible show AW _ _ (.cond _ _ _) _ _ _); refine AW_cond rfl (fun hg => ?_) (fun hg => ?_) <;> first | (exfalso; simp only [reduceCtorEq] at hg; done) | ((try simp only [Bool.not_eq_true', Bool.not_eq_false', decide_eq_true_eq, decide_eq_false_iff_not] at hg); try (exfalso; omega)))
        | ((with_reducible show _ ∧ _); refine And.intro (fun hg => ?_) (fun hg => ?_) <;> (try simp only [Bool.not_eq_true', Bool.not_eq_false'] at hg) <;> simp only [hg] <;> (try simp only [decide_eq_true_eq, decide_eq_false_iff_not] at hg) <;> (try (exfalso; omega)))
        | ((with_reducible apply FunH_intro); (first | exact iValidWindow_c _ _ _ _ [] [] _ RdL_nil RdL_nil (by simp) (by simp) | exact iValidWindow_c _ _ _ _ _ _ _ (by first | assumption | exact RdL.app (by assumption) _ | exact RdL_hj rfl (by simp) | exact RdL_h0 rfl (by simp) | exact RdL_nil | exact RdL_emp) (by first | assumption | exact RdL.app (by assumption) _ | exact RdL_hj rfl (by simp) | exact RdL_h0 rfl (by simp) | exact RdL_nil | exact RdL_emp) (by first | assumption | omega | (simp; omega) | (simp; done)) (by first | assumption | omega | (simp; omega) | (simp; done))))
        | (clear hK K)
        | fail)
      first | (refine EndA_rows0 [none, none] hcl (by first | exact Or.inr rfl | exact Or.inl rfl) (by simp only [Try.results24, resA, aresL, go_sem, reduceIte, reduceCtorEq, Nat.reduceAdd, Nat.reduceMul, Nat.reduceSub, Nat.reduceLeDiff, Nat.lt_irrefl, Nat.reduceLT, Nat.reduceEqDiff, Nat.reduceBEq, Int.reduceLE, Int.reduceLT, Int.reduceToNat, w64, eq_self] <;> rfl) (by decide) ?_ ?_ ⟨rfl, rfl⟩) | (refine EndA_rows [none, none] hcl (by first | exact Or.inr rfl | exact Or.inl rfl) (by simp only [Try.results24, resA, aresL, go_sem, reduceIte, reduceCtorEq, Nat.reduceAdd, Nat.reduceMul, Nat.reduceSub, Nat.reduceLeDiff, Nat.lt_irrefl, Nat.reduceLT, Nat.reduceEqDiff, Nat.reduceBEq, Int.reduceLE, Int.reduceLT, Int.reduceToNat, w64, eq_self] <;> rfl) (by decide) ?_ ?_ ⟨rfl, rfl⟩)
      rotate_left
      · repeat' (first | exact trivial | apply TdT.tup | apply TdT.one | apply TdL.agg | apply TdL.cell | exact TdB.old _ trivial rfl | exact TdB.virt 0 rfl | exact TdB.virt 1 rfl | exact TdB.junk _ | exact TdB.old _ (by assumption) (by assumption) | refine And.intro ?_ ?_)
      all_goals (repeat' (first | (with_reducible exact RowOk.none) | ((with_reducible apply RowOk.emp); exact rfl) | ((with_reducible apply RowOk.eq); (exact rfl); rotate_left; (first | (with_reducible exact scal_int _ _) | (with_reducible exact scal_flt _ _) | (with_reducible exact scal_bool _) | (intro c hc; cases hc; done) | (simp [LV.isCell, bnd]; done))) | exact trivial | refine And.intro ?_ ?_))
      all_goals (try rfl)
  exact key
theorem sNewWindow_c (l p : Int) (H : Hp) :
    FunH Try.prog 23 [.int .i64 l, .int .i64 p] H fun r H' => r = .tup [.agg [.int .i64 (if nwB l p then l else 0), .int .i64 (if nwB l p then p else 0), .sl H.length 0 0 noI.length none, .sl (H.length + 1) 0 0 noI.length none], .bool (nwB l p)] ∧ H' = H ++ [⟨0, false, 2, 1, noI.map (LV.int .i64)⟩, ⟨0, false, 2, 1, noI.map (LV.int .i64)⟩] := by
  have key : FunH Try.prog 23 [.int .i64 l, .int .i64 p] H fun r H' => r = .tup [.agg [.int .i64 (if nwB l p then l else 0), .int .i64 (if nwB l p then p else 0), .sl H.length 0 0 0 none, .sl (H.length + 1) 0 0 0 none], .bool (nwB l p)] ∧ H' = H ++ [⟨0, false, 2, 1, []⟩, ⟨0, false, 2, 1, []⟩] := by
    cases e : nwB l p
    · simp only [Bool.false_eq_true, if_false]
      have e' := e
      unfold nwB at e'
      (refine FunH_body tyOk Try.func23 rfl (by kernel_rfl) Try.ntmps23 (fun hcl hbd => ?_); simp only [List.length_cons, List.length_nil, Nat.reduceAdd, Nat.reduceSub, List.replicate, List.cons_append, List.nil_append])
      repeat' (first
        | ((with_reducible refine hK _ _ ?_); clear hK K)
        | ((first | (with_reducible show AOp _ _ _ _ _ _ _)); simp (disch := first | omega | assumption | rfl | (exact liveO_setS (by assumption)) | (exact PtL.live (by assumption)) | (exact PtL.liveA (by assumption) _) | (simp only [go_sem]; first | done | omega)) only [go_sem, reduceIte, reduceCtorEq, Nat.reduceAdd, Nat.reduceMul, Nat.reduceSub, Nat.reduceLeDiff, Nat.lt_irrefl, Nat.reduceLT, Nat.reduceEqDiff, Nat.reduceBEq, Int.reduceLE, Int.reduceLT, Int.reduceToNat, w64, eq_self, e', and_true])
        | (with_reducible refine AW_seq (fun K hK => ?_))
        | (with_reducible refine AW_region tyOk ?_)
        | (with_reducible refine AOps_cons (fun K hK => ?_))
        | ((with_reducible refine AOps_nil ?_); try simp (disch := first | omega | assumption | rfl | (exact liveO_setS (by assumption)) | (exact PtL.live (by assumption)) | (exact PtL.liveA (by assumption) _) | (simp only [thenA, blockA, go_sem]; first | done | omega)) only [thenA, blockA, go_sem, reduceIte, reduceCtorEq, Nat.reduceAdd, Nat.reduceMul, Nat.reduceSub, Nat.reduceLeDiff, Nat.lt_irrefl, Nat.reduceLT, Nat.reduceEqDiff, Nat.reduceBEq, Int.reduceLE, Int.reduceLT, Int.reduceToNat, w64, eq_self, e', and_true])
        | (with_reducible refine AW_block ?_)
        | ((first | (with_reducible refine AW_ret ?_) | (with_reducible refine AW_skip ?_) | (with_reducible refine AW_exit ?_)); try simp only [thenA, blockA, if_true, if_false, reduceIte, Nat.reduceEqDiff, reduceCtorEq])
        | ((with_reducible show AW _ _ (.cond _ _ _) _ _ _); refine AW_cond rfl (fun hg => ?_) (fun hg => ?_) <;> first | (exfalso; simp only [reduceCtorEq] at hg; done) | ((try simp only [Bool.not_eq_true', Bool.not_eq_false', decide_eq_true_eq, decide_eq_false_iff_not] at hg); try (exfalso; omega)))
        | ((with_reducible show _ ∧ _); refine And.intro (fun hg => ?_) (fun hg => ?_) <;> (try simp only [Bool.not_eq_true', Bool.not_eq_false'] at hg) <;> simp only [hg] <;> (try simp only [decide_eq_true_eq, decide_eq_false_iff_not] at hg) <;> (try (exfalso; omega)))
        | ((with_reducible apply FunH_intro); (first | exact l00In_c _ _ _ _ | exact l00In_c _ _ _ _))
        | (clear hK K)
        | fail)
      all_goals try (exfalso; (try clear hK K); clear hcl hbd; grind [nwB])
      all_goals (
        first | (refine EndA_rows0 [none, none] hcl (by first | exact Or.inr rfl | exact Or.inl rfl) (by simp only [Try.results23, resA, aresL, go_sem, reduceIte, reduceCtorEq, Nat.reduceAdd, Nat.reduceMul, Nat.reduceSub, Nat.reduceLeDiff, Nat.lt_irrefl, Nat.reduceLT, Nat.reduceEqDiff, Nat.reduceBEq, Int.reduceLE, Int.reduceLT, Int.reduceToNat, w64, eq_self] <;> rfl) (by decide) ?_ ?_ ⟨rfl, rfl⟩) | (refine EndA_rows [none, none] hcl (by first | exact Or.inr rfl | exact Or.inl rfl) (by simp only [Try.results23, resA, aresL, go_sem, reduceIte, reduceCtorEq, Nat.reduceAdd, Nat.reduceMul, Nat.reduceSub, Nat.reduceLeDiff, Nat.lt_irrefl, Nat.reduceLT, Nat.reduceEqDiff, Nat.reduceBEq, Int.reduceLE, Int.reduceLT, Int.reduceToNat, w64, eq_self] <;> rfl) (by decide) ?_ ?_ ⟨rfl, rfl⟩)
        rotate_left
        · repeat' (first | exact trivial | apply TdT.tup | apply TdT.one | apply TdL.agg | apply TdL.cell | exact TdB.old _ trivial rfl | exact TdB.virt 0 rfl | exact TdB.virt 1 rfl | exact TdB.junk _ | exact TdB.old _ (by assumption) (by assumption) | refine And.intro ?_ ?_)
        all_goals (repeat' (first | (with_reducible exact RowOk.none) | ((with_reducible apply RowOk.emp); exact rfl) | ((with_reducible apply RowOk.eq); (exact rfl); rotate_left; (first | (with_reducible exact scal_int _ _) | (with_reducible exact scal_flt _ _) | (with_reducible exact scal_bool _) | (intro c hc; cases hc; done) | (simp [LV.isCell, bnd]; done))) | exact trivial | refine And.intro ?_ ?_))
        all_goals (try rfl))
    · simp only [if_true]
      have e' : inB l 1 1000000 = true ∧ inB p 1 16 = true := by unfold nwB at e; simpa using e
      (refine FunH_body tyOk Try.func23 rfl (by kernel_rfl) Try.ntmps23 (fun hcl hbd => ?_); simp only [List.length_cons, List.length_nil, Nat.reduceAdd, Nat.reduceSub, List.replicate, List.cons_append, List.nil_append])
      repeat' (first
        | ((with_reducible refine hK _ _ ?_); clear hK K)
        | ((first | (with_reducible show AOp _ _ _ _ _ _ _)); simp (disch := first | omega | assumption | rfl | (exact liveO_setS (by assumption)) | (exact PtL.live (by assumption)) | (exact PtL.liveA (by assumption) _) | (simp only [go_sem]; first | done | omega)) only [go_sem, reduceIte, reduceCtorEq, Nat.reduceAdd, Nat.reduceMul, Nat.reduceSub, Nat.reduceLeDiff, Nat.lt_irrefl, Nat.reduceLT, Nat.reduceEqDiff, Nat.reduceBEq, Int.reduceLE, Int.reduceLT, Int.reduceToNat, w64, eq_self, e'.1, e'.2, and_true])
        | (with_reducible refine AW_seq (fun K hK => ?_))
        | (with_reducible refine AW_region tyOk ?_)
        | (with_reducible refine AOps_cons (fun K hK => ?_))
        | ((with_reducible refine AOps_nil ?_); try simp (disch := first | omega | assumption | rfl | (exact liveO_setS (by assumption)) | (exact PtL.live (by assumption)) | (exact PtL.liveA (by assumption) _) | (simp only [thenA, blockA, go_sem]; first | done | omega)) only [thenA, blockA, go_sem, reduceIte, reduceCtorEq, Nat.reduceAdd, Nat.reduceMul, Nat.reduceSub, Nat.reduceLeDiff, Nat.lt_irrefl, Nat.reduceLT, Nat.reduceEqDiff, Nat.reduceBEq, Int.reduceLE, Int.reduceLT, Int.reduceToNat, w64, eq_self, e'.1, e'.2, and_true])
        | (with_reducible refine AW_block ?_)
        | ((first | (with_reducible refine AW_ret ?_) | (with_reducible refine AW_skip ?_) | (with_reducible refine AW_exit ?_)); try simp only [thenA, blockA, if_true, if_false, reduceIte, Nat.reduceEqDiff, reduceCtorEq])
        | ((with_reducible show AW _ _ (.cond _ _ _) _ _ _); refine AW_cond rfl (fun hg => ?_) (fun hg => ?_) <;> first | (exfalso; simp only [reduceCtorEq] at hg; done) | ((try simp only [Bool.not_eq_true', Bool.not_eq_false', decide_eq_true_eq, decide_eq_false_iff_not] at hg); try (exfalso; omega)))
        | ((with_reducible show _ ∧ _); refine And.intro (fun hg => ?_) (fun hg => ?_) <;> (try simp only [Bool.not_eq_true', Bool.not_eq_false'] at hg) <;> simp only [hg] <;> (try simp only [decide_eq_true_eq, decide_eq_false_iff_not] at hg) <;> (try (exfalso; omega)))
        | ((with_reducible apply FunH_intro); (first | exact l00In_c _ _ _ _ | exact l00In_c _ _ _ _))
        | (clear hK K)
        | fail)
      refine EndA_rows [some 1, some 2] hcl (by first | exact Or.inr rfl | exact Or.inl rfl) (by simp only [Try.results23, resA, aresL, go_sem, reduceIte, reduceCtorEq, Nat.reduceAdd, Nat.reduceMul, Nat.reduceSub, Nat.reduceLeDiff, Nat.lt_irrefl, Nat.reduceLT, Nat.reduceEqDiff, Nat.reduceBEq, Int.reduceLE, Int.reduceLT, Int.reduceToNat, w64, eq_self] <;> rfl) (by decide) ?_ ?_ ⟨rfl, rfl⟩
      rotate_left
      · repeat' (first | exact trivial | apply TdT.tup | apply TdT.one | apply TdL.agg | apply TdL.cell | exact TdB.old _ trivial rfl | exact TdB.own 0 1 _ _ _ _ rfl _ rfl rfl | exact TdB.own 1 2 _ _ _ _ rfl _ rfl rfl | exact TdB.junk _ | exact TdB.old _ (by assumption) (by assumption) | refine And.intro ?_ ?_)
      all_goals (repeat' (first | (with_reducible exact RowOk.none) | ((with_reducible apply RowOk.emp); exact rfl) | ((with_reducible apply RowOk.eq); (exact rfl); rotate_left; (first | (with_reducible exact scal_int _ _) | (with_reducible exact scal_flt _ _) | (with_reducible exact scal_bool _) | (intro c hc; cases hc; done) | (simp [LV.isCell, bnd]; done))) | exact trivial | refine And.intro ?_ ?_))
      all_goals (try rfl)
  exact key
end Go.Proofs.Ytldbojmonegdbaa
