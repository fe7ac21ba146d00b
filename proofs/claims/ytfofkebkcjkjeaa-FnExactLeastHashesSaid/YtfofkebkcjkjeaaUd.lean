/- LeastHashes in the abstract machine, both sides. -/
import Derived.Test.YtfofkebkcjkjeaaUc
namespace Go.Proofs.Ytfofkebkcjkjeaa
open Go.RowKit
set_option linter.unusedSimpArgs false
set_option linter.unusedVariables false
set_option maxRecDepth 100000

theorem rowI_len (ks : List Int) (s : Int) : (rowI ks s).length = ks.length := List.length_map _
theorem keysB_all {ks : List Int} (h : keysB ks = true) : ks.length ≤ 256 ∧ ∀ k ∈ ks, 0 ≤ k ∧ k ≤ 4294967295 := by
  unfold keysB at h
  simp only [Bool.and_eq_true, decide_eq_true_eq, List.all_eq_true] at h
  exact ⟨h.1, fun k hk => (keyB_iff k).1 (h.2 k hk)⟩
theorem isRoom_c (n : Int) (H : Hp) : FunH Try.prog 85 [.int .i64 n] H fun r H' => r = .bool (inB n 1 256) ∧ H' = H := by
  (refine FunH_body tyOk Try.func85 rfl (by kernel_rfl) Try.ntmps85 (fun hcl hbd => ?_); simp only [List.length_cons, List.length_nil, Nat.reduceAdd, Nat.reduceSub, List.replicate, List.cons_append, List.nil_append])
  repeat' (first
    | ((with_reducible refine hK _ _ ?_); clear hK K)
    | ((first | (with_reducible show AOp _ _ _ _ _ _ _)); simp (disch := first | ((with_reducible show liveO _ _ _ = true); first | assumption | (exact liveO_setS (by assumption)) | (exact PtL.live (by assumption)) | (exact PtL.liveA (by assumption) _) | (simp only [go_sem]; done)) | omega | assumption | rfl | (simp only [go_sem]; first | done | omega)) only [go_sem, reduceIte, reduceCtorEq, Nat.reduceAdd, Nat.reduceMul, Nat.reduceSub, Nat.reduceLeDiff, Nat.lt_irrefl, Nat.reduceLT, Nat.reduceEqDiff, Nat.reduceBEq, Int.reduceLE, Int.reduceLT, Int.reduceToNat, w64, eq_self])
    | (with_reducible refine AW_seq (fun K hK => ?_))
    | (with_reducible refine AW_region tyOk ?_)
    | (with_reducible refine AOps_cons (fun K hK => ?_))
    | ((with_reducible refine AOps_nil ?_); try simp only [thenA, blockA, if_true, if_false, reduceIte, Nat.reduceEqDiff, reduceCtorEq])
    | (with_reducible refine AW_block ?_)
    | ((first | (with_reducible refine AW_ret ?_) | (with_reducible refine AW_skip ?_) | (with_reducible refine AW_exit ?_)); try simp only [thenA, blockA, if_true, if_false, reduceIte, Nat.reduceEqDiff, reduceCtorEq])
    | ((with_reducible show AW _ _ (.cond _ _ _) _ _ _); refine AW_cond rfl (fun hg => ?_) (fun hg => ?_) <;> first | (exfalso; simp only [reduceCtorEq] at hg; done) | ((try simp only [Bool.not_eq_true', Bool.not_eq_false', decide_eq_true_eq, decide_eq_false_iff_not] at hg); try (exfalso; omega)))
    | ((with_reducible show _ ∧ _); refine And.intro (fun hg => ?_) (fun hg => ?_) <;> (try simp only [Bool.not_eq_true', Bool.not_eq_false'] at hg) <;> simp only [hg] <;> (try simp only [decide_eq_true_eq, decide_eq_false_iff_not] at hg) <;> (try (exfalso; omega)))
    | ((with_reducible apply FunH_intro); (first | exact within_c _ _ _ _))
    | (clear hK K)
    | fail)
  all_goals (first | refine EndA_cut hcl (by first | exact Or.inr rfl | exact Or.inl rfl) (by simp only [Try.results85, resA, aresL, go_sem, reduceIte, reduceCtorEq, Nat.reduceAdd, Nat.reduceMul, Nat.reduceSub, Nat.reduceLeDiff, Nat.lt_irrefl, Nat.reduceLT, Nat.reduceEqDiff, Nat.reduceBEq, Int.reduceLE, Int.reduceLT, Int.reduceToNat, w64, eq_self] <;> rfl) rfl ?_ | refine EndA_same (by first | exact Or.inr rfl | exact Or.inl rfl) (by simp only [Try.results85, resA, aresL, go_sem, reduceIte, reduceCtorEq, Nat.reduceAdd, Nat.reduceMul, Nat.reduceSub, Nat.reduceLeDiff, Nat.lt_irrefl, Nat.reduceLT, Nat.reduceEqDiff, Nat.reduceBEq, Int.reduceLE, Int.reduceLT, Int.reduceToNat, w64, eq_self] <;> rfl) ?_)
  all_goals exact ⟨rfl, rfl⟩
theorem l04Room_c (n : Int) (H : Hp) : FunH Try.prog 81 [.int .i64 n] H fun r H' => r = .bool (inB n 1 256) ∧ H' = H := by
  (refine FunH_body tyOk Try.func81 rfl (by kernel_rfl) Try.ntmps81 (fun hcl hbd => ?_); simp only [List.length_cons, List.length_nil, Nat.reduceAdd, Nat.reduceSub, List.replicate, List.cons_append, List.nil_append])
  repeat' (first
    | ((with_reducible refine hK _ _ ?_); clear hK K)
    | ((first | (with_reducible show AOp _ _ _ _ _ _ _)); simp (disch := first | ((with_reducible show liveO _ _ _ = true); first | assumption | (exact liveO_setS (by assumption)) | (exact PtL.live (by assumption)) | (exact PtL.liveA (by assumption) _) | (simp only [go_sem]; done)) | omega | assumption | rfl | (simp only [go_sem]; first | done | omega)) only [go_sem, reduceIte, reduceCtorEq, Nat.reduceAdd, Nat.reduceMul, Nat.reduceSub, Nat.reduceLeDiff, Nat.lt_irrefl, Nat.reduceLT, Nat.reduceEqDiff, Nat.reduceBEq, Int.reduceLE, Int.reduceLT, Int.reduceToNat, w64, eq_self])
    | (with_reducible refine AW_seq (fun K hK => ?_))
    | (with_reducible refine AW_region tyOk ?_)
    | (with_reducible refine AOps_cons (fun K hK => ?_))
    | ((with_reducible refine AOps_nil ?_); try simp only [thenA, blockA, if_true, if_false, reduceIte, Nat.reduceEqDiff, reduceCtorEq])
    | (with_reducible refine AW_block ?_)
    | ((first | (with_reducible refine AW_ret ?_) | (with_reducible refine AW_skip ?_) | (with_reducible refine AW_exit ?_)); try simp only [thenA, blockA, if_true, if_false, reduceIte, Nat.reduceEqDiff, reduceCtorEq])
    | ((with_reducible show AW _ _ (.cond _ _ _) _ _ _); refine AW_cond rfl (fun hg => ?_) (fun hg => ?_) <;> first | (exfalso; simp only [reduceCtorEq] at hg; done) | ((try simp only [Bool.not_eq_true', Bool.not_eq_false', decide_eq_true_eq, decide_eq_false_iff_not] at hg); try (exfalso; omega)))
    | ((with_reducible show _ ∧ _); refine And.intro (fun hg => ?_) (fun hg => ?_) <;> (try simp only [Bool.not_eq_true', Bool.not_eq_false'] at hg) <;> simp only [hg] <;> (try simp only [decide_eq_true_eq, decide_eq_false_iff_not] at hg) <;> (try (exfalso; omega)))
    | ((with_reducible apply FunH_intro); (first | exact l00In_c _ _ _ _))
    | (clear hK K)
    | fail)
  all_goals (first | refine EndA_cut hcl (by first | exact Or.inr rfl | exact Or.inl rfl) (by simp only [Try.results81, resA, aresL, go_sem, reduceIte, reduceCtorEq, Nat.reduceAdd, Nat.reduceMul, Nat.reduceSub, Nat.reduceLeDiff, Nat.lt_irrefl, Nat.reduceLT, Nat.reduceEqDiff, Nat.reduceBEq, Int.reduceLE, Int.reduceLT, Int.reduceToNat, w64, eq_self] <;> rfl) rfl ?_ | refine EndA_same (by first | exact Or.inr rfl | exact Or.inl rfl) (by simp only [Try.results81, resA, aresL, go_sem, reduceIte, reduceCtorEq, Nat.reduceAdd, Nat.reduceMul, Nat.reduceSub, Nat.reduceLeDiff, Nat.lt_irrefl, Nat.reduceLT, Nat.reduceEqDiff, Nat.reduceBEq, Int.reduceLE, Int.reduceLT, Int.reduceToNat, w64, eq_self] <;> rfl) ?_)
  all_goals exact ⟨rfl, rfl⟩
def lhOk (ks : List Int) (s room : Int) : Bool := keysB ks && keyB s && inB room 1 256
def lhL (ks : List Int) (s room : Int) : List Int := if lhOk ks s room then lstU (rowI ks s) room else []
theorem lhL_len (ks : List Int) (s room : Int) : (lhL ks s room).length ≤ 256 := by
  unfold lhL
  split
  · rename_i h
    unfold lhOk at h
    simp only [Bool.and_eq_true] at h
    have := lstU_len (rowI ks s) room
    have h2 := h.2
    simp only [inB, Bool.and_eq_true, decide_eq_true_eq] at h2
    omega
  · simp
theorem HashRow_c (lv : LV) (ks : List Int) (s : Int) (H : Hp) (h : RdL H lv (ks.map (LV.int .i64))) (hn : ks.length ≤ 1048576) :
    FunH Try.prog 84 [lv, .int .i64 s] H fun r H' => r = .tup [.sl H.length 0 0 (if keysB ks && keyB s then rowI ks s else []).length none, .bool (keysB ks && keyB s)] ∧ H' = H ++ [⟨0, false, 2, 1, (if keysB ks && keyB s then rowI ks s else []).map (LV.int .i64)⟩] := by
  cases e1 : keysB ks
  · simp only [Bool.false_and, Bool.false_eq_true, if_false]
    (refine FunH_body tyOk Try.func84 rfl (by kernel_rfl) Try.ntmps84 (fun hcl hbd => ?_); simp only [List.length_cons, List.length_nil, Nat.reduceAdd, Nat.reduceSub, List.replicate, List.cons_append, List.nil_append])
    repeat' (first
      | ((with_reducible refine hK _ _ ?_); clear hK K)
      | ((first | (with_reducible show AOp _ _ _ _ _ _ _)); simp (disch := first | ((with_reducible show liveO _ _ _ = true); first | assumption | (exact liveO_setS (by assumption)) | (exact PtL.live (by assumption)) | (exact PtL.liveA (by assumption) _) | (simp only [go_sem]; done)) | omega | assumption | rfl | (simp only [go_sem]; first | done | omega)) only [go_sem, reduceIte, reduceCtorEq, Nat.reduceAdd, Nat.reduceMul, Nat.reduceSub, Nat.reduceLeDiff, Nat.lt_irrefl, Nat.reduceLT, Nat.reduceEqDiff, Nat.reduceBEq, Int.reduceLE, Int.reduceLT, Int.reduceToNat, w64, eq_self, e1])
      | (with_reducible refine AW_seq (fun K hK => ?_))
      | (with_reducible refine AW_region tyOk ?_)
      | (with_reducible refine AOps_cons (fun K hK => ?_))
      | ((with_reducible refine AOps_nil ?_); try simp only [thenA, blockA, if_true, if_false, reduceIte, Nat.reduceEqDiff, reduceCtorEq])
      | (with_reducible refine AW_block ?_)
      | ((first | (with_reducible refine AW_ret ?_) | (with_reducible refine AW_skip ?_) | (with_reducible refine AW_exit ?_)); try simp only [thenA, blockA, if_true, if_false, reduceIte, Nat.reduceEqDiff, reduceCtorEq])
      | ((with_reducible show AW _ _ (.cond _ _ _) _ _ _); refine AW_cond rfl (fun hg => ?_) (fun hg => ?_) <;> first | (exfalso; simp only [reduceCtorEq] at hg; done) | ((try simp only [Bool.not_eq_true', Bool.not_eq_false', decide_eq_true_eq, decide_eq_false_iff_not] at hg); try (exfalso; omega)))
      | ((with_reducible show _ ∧ _); refine And.intro (fun hg => ?_) (fun hg => ?_) <;> (try simp only [Bool.not_eq_true', Bool.not_eq_false'] at hg) <;> simp only [hg] <;> (try simp only [decide_eq_true_eq, decide_eq_false_iff_not] at hg) <;> (try (exfalso; omega)))
      | ((with_reducible apply FunH_intro); (first | exact AreKeys_c _ _ _ (by first | assumption | exact RdL.app (by assumption) _ | exact RdL_hj rfl (by simp) | exact RdL_h0 rfl (by simp) | exact RdL_nil | exact RdL_emp) (by first | assumption | omega | (simp; omega) | (simp; done)) | exact IsKey_c _ _ | exact hashRow_c _ _ _ _ (by first | assumption | exact RdL.app (by assumption) _ | exact RdL_hj rfl (by simp) | exact RdL_h0 rfl (by simp) | exact RdL_nil | exact RdL_emp) (by first | assumption | omega | (simp; omega) | (simp; done)) (by first | assumption | (simp; done)) (by first | assumption | omega | (simp; omega) | (simp; done))))
      | (clear hK K)
      | fail)
    first | (refine EndA_rows0 [none] hcl (by first | exact Or.inr rfl | exact Or.inl rfl) (by simp only [Try.results84, resA, aresL, go_sem, reduceIte, reduceCtorEq, Nat.reduceAdd, Nat.reduceMul, Nat.reduceSub, Nat.reduceLeDiff, Nat.lt_irrefl, Nat.reduceLT, Nat.reduceEqDiff, Nat.reduceBEq, Int.reduceLE, Int.reduceLT, Int.reduceToNat, w64, eq_self] <;> rfl) (by decide) ?_ ?_ ⟨rfl, rfl⟩) | (refine EndA_rows [none] hcl (by first | exact Or.inr rfl | exact Or.inl rfl) (by simp only [Try.results84, resA, aresL, go_sem, reduceIte, reduceCtorEq, Nat.reduceAdd, Nat.reduceMul, Nat.reduceSub, Nat.reduceLeDiff, Nat.lt_irrefl, Nat.reduceLT, Nat.reduceEqDiff, Nat.reduceBEq, Int.reduceLE, Int.reduceLT, Int.reduceToNat, w64, eq_self] <;> rfl) (by decide) ?_ ?_ ⟨rfl, rfl⟩)
    rotate_left
    · repeat' (first | exact trivial | apply TdT.tup | apply TdT.one | apply TdL.agg | apply TdL.cell | exact TdB.old _ trivial rfl | exact TdB.virt 0 rfl | exact TdB.junk _ | exact TdB.old _ (by assumption) (by assumption) | refine And.intro ?_ ?_)
    all_goals (repeat' (first | (with_reducible exact RowOk.none) | ((with_reducible apply RowOk.emp); exact rfl) | ((with_reducible apply RowOk.eq); (exact rfl); rotate_left; (first | (with_reducible exact scal_int _ _) | (with_reducible exact scal_flt _ _) | (with_reducible exact scal_bool _) | (intro c hc; cases hc; done) | (simp [LV.isCell, bnd]; done))) | exact trivial | refine And.intro ?_ ?_))
    all_goals (try rfl)
  cases e2 : keyB s
  · simp only [Bool.and_false, Bool.false_eq_true, if_false]
    (refine FunH_body tyOk Try.func84 rfl (by kernel_rfl) Try.ntmps84 (fun hcl hbd => ?_); simp only [List.length_cons, List.length_nil, Nat.reduceAdd, Nat.reduceSub, List.replicate, List.cons_append, List.nil_append])
    repeat' (first
      | ((with_reducible refine hK _ _ ?_); clear hK K)
      | ((first | (with_reducible show AOp _ _ _ _ _ _ _)); simp (disch := first | ((with_reducible show liveO _ _ _ = true); first | assumption | (exact liveO_setS (by assumption)) | (exact PtL.live (by assumption)) | (exact PtL.liveA (by assumption) _) | (simp only [go_sem]; done)) | omega | assumption | rfl | (simp only [go_sem]; first | done | omega)) only [go_sem, reduceIte, reduceCtorEq, Nat.reduceAdd, Nat.reduceMul, Nat.reduceSub, Nat.reduceLeDiff, Nat.lt_irrefl, Nat.reduceLT, Nat.reduceEqDiff, Nat.reduceBEq, Int.reduceLE, Int.reduceLT, Int.reduceToNat, w64, eq_self, e1, e2])
      | (with_reducible refine AW_seq (fun K hK => ?_))
      | (with_reducible refine AW_region tyOk ?_)
      | (with_reducible refine AOps_cons (fun K hK => ?_))
      | ((with_reducible refine AOps_nil ?_); try simp only [thenA, blockA, if_true, if_false, reduceIte, Nat.reduceEqDiff, reduceCtorEq])
      | (with_reducible refine AW_block ?_)
      | ((first | (with_reducible refine AW_ret ?_) | (with_reducible refine AW_skip ?_) | (with_reducible refine AW_exit ?_)); try simp only [thenA, blockA, if_true, if_false, reduceIte, Nat.reduceEqDiff, reduceCtorEq])
      | ((with_reducible show AW _ _ (.cond _ _ _) _ _ _); refine AW_cond rfl (fun hg => ?_) (fun hg => ?_) <;> first | (exfalso; simp only [reduceCtorEq] at hg; done) | ((try simp only [Bool.not_eq_true', Bool.not_eq_false', decide_eq_true_eq, decide_eq_false_iff_not] at hg); try (exfalso; omega)))
      | ((with_reducible show _ ∧ _); refine And.intro (fun hg => ?_) (fun hg => ?_) <;> (try simp only [Bool.not_eq_true', Bool.not_eq_false'] at hg) <;> simp only [hg] <;> (try simp only [decide_eq_true_eq, decide_eq_false_iff_not] at hg) <;> (try (exfalso; omega)))
      | ((with_reducible apply FunH_intro); (first | exact AreKeys_c _ _ _ (by first | assumption | exact RdL.app (by assumption) _ | exact RdL_hj rfl (by simp) | exact RdL_h0 rfl (by simp) | exact RdL_nil | exact RdL_emp) (by first | assumption | omega | (simp; omega) | (simp; done)) | exact IsKey_c _ _ | exact hashRow_c _ _ _ _ (by first | assumption | exact RdL.app (by assumption) _ | exact RdL_hj rfl (by simp) | exact RdL_h0 rfl (by simp) | exact RdL_nil | exact RdL_emp) (by first | assumption | omega | (simp; omega) | (simp; done)) (by first | assumption | (simp; done)) (by first | assumption | omega | (simp; omega) | (simp; done))))
      | (clear hK K)
      | fail)
    first | (refine EndA_rows0 [none] hcl (by first | exact Or.inr rfl | exact Or.inl rfl) (by simp only [Try.results84, resA, aresL, go_sem, reduceIte, reduceCtorEq, Nat.reduceAdd, Nat.reduceMul, Nat.reduceSub, Nat.reduceLeDiff, Nat.lt_irrefl, Nat.reduceLT, Nat.reduceEqDiff, Nat.reduceBEq, Int.reduceLE, Int.reduceLT, Int.reduceToNat, w64, eq_self] <;> rfl) (by decide) ?_ ?_ ⟨rfl, rfl⟩) | (refine EndA_rows [none] hcl (by first | exact Or.inr rfl | exact Or.inl rfl) (by simp only [Try.results84, resA, aresL, go_sem, reduceIte, reduceCtorEq, Nat.reduceAdd, Nat.reduceMul, Nat.reduceSub, Nat.reduceLeDiff, Nat.lt_irrefl, Nat.reduceLT, Nat.reduceEqDiff, Nat.reduceBEq, Int.reduceLE, Int.reduceLT, Int.reduceToNat, w64, eq_self] <;> rfl) (by decide) ?_ ?_ ⟨rfl, rfl⟩)
    rotate_left
    · repeat' (first | exact trivial | apply TdT.tup | apply TdT.one | apply TdL.agg | apply TdL.cell | exact TdB.old _ trivial rfl | exact TdB.virt 0 rfl | exact TdB.junk _ | exact TdB.old _ (by assumption) (by assumption) | refine And.intro ?_ ?_)
    all_goals (repeat' (first | (with_reducible exact RowOk.none) | ((with_reducible apply RowOk.emp); exact rfl) | ((with_reducible apply RowOk.eq); (exact rfl); rotate_left; (first | (with_reducible exact scal_int _ _) | (with_reducible exact scal_flt _ _) | (with_reducible exact scal_bool _) | (intro c hc; cases hc; done) | (simp [LV.isCell, bnd]; done))) | exact trivial | refine And.intro ?_ ?_))
    all_goals (try rfl)
  · obtain ⟨k1, k2⟩ := keysB_all e1
    have hh := hashRow_c lv ks s H h hn k2 ((keyB_iff s).1 e2)
    simp only [Bool.and_self, if_true, rowI_len]
    (refine FunH_body tyOk Try.func84 rfl (by kernel_rfl) Try.ntmps84 (fun hcl hbd => ?_); simp only [List.length_cons, List.length_nil, Nat.reduceAdd, Nat.reduceSub, List.replicate, List.cons_append, List.nil_append])
    repeat' (first
      | ((with_reducible refine hK _ _ ?_); clear hK K)
      | ((first | (with_reducible show AOp _ _ _ _ _ _ _)); simp (disch := first | ((with_reducible show liveO _ _ _ = true); first | assumption | (exact liveO_setS (by assumption)) | (exact PtL.live (by assumption)) | (exact PtL.liveA (by assumption) _) | (simp only [go_sem]; done)) | omega | assumption | rfl | (simp only [go_sem]; first | done | omega)) only [go_sem, reduceIte, reduceCtorEq, Nat.reduceAdd, Nat.reduceMul, Nat.reduceSub, Nat.reduceLeDiff, Nat.lt_irrefl, Nat.reduceLT, Nat.reduceEqDiff, Nat.reduceBEq, Int.reduceLE, Int.reduceLT, Int.reduceToNat, w64, eq_self, e1, e2])
      | (with_reducible refine AW_seq (fun K hK => ?_))
      | (with_reducible refine AW_region tyOk ?_)
      | (with_reducible refine AOps_cons (fun K hK => ?_))
      | ((with_reducible refine AOps_nil ?_); try simp only [thenA, blockA, if_true, if_false, reduceIte, Nat.reduceEqDiff, reduceCtorEq])
      | (with_reducible refine AW_block ?_)
      | ((first | (with_reducible refine AW_ret ?_) | (with_reducible refine AW_skip ?_) | (with_reducible refine AW_exit ?_)); try simp only [thenA, blockA, if_true, if_false, reduceIte, Nat.reduceEqDiff, reduceCtorEq])
      | ((with_reducible show AW _ _ (.cond _ _ _) _ _ _); refine AW_cond rfl (fun hg => ?_) (fun hg => ?_) <;> first | (exfalso; simp only [reduceCtorEq] at hg; done) | ((try simp only [Bool.not_eq_true', Bool.not_eq_false', decide_eq_true_eq, decide_eq_false_iff_not] at hg); try (exfalso; omega)))
      | ((with_reducible show _ ∧ _); refine And.intro (fun hg => ?_) (fun hg => ?_) <;> (try simp only [Bool.not_eq_true', Bool.not_eq_false'] at hg) <;> simp only [hg] <;> (try simp only [decide_eq_true_eq, decide_eq_false_iff_not] at hg) <;> (try (exfalso; omega)))
      | ((with_reducible apply FunH_intro); (first | exact hh | exact AreKeys_c _ _ _ (by first | assumption | exact RdL.app (by assumption) _ | exact RdL_hj rfl (by simp) | exact RdL_h0 rfl (by simp) | exact RdL_nil | exact RdL_emp) (by first | assumption | omega | (simp; omega) | (simp; done)) | exact IsKey_c _ _ | exact hashRow_c _ _ _ _ (by first | assumption | exact RdL.app (by assumption) _ | exact RdL_hj rfl (by simp) | exact RdL_h0 rfl (by simp) | exact RdL_nil | exact RdL_emp) (by first | assumption | omega | (simp; omega) | (simp; done)) (by first | assumption | (simp; done)) (by first | assumption | omega | (simp; omega) | (simp; done))))
      | (clear hK K)
      | fail)
    have hl := rowI_len ks s
    refine EndA_rows [some 0] hcl (by first | exact Or.inr rfl | exact Or.inl rfl) (by simp only [Try.results84, resA, aresL, go_sem, reduceIte, reduceCtorEq, Nat.reduceAdd, Nat.reduceMul, Nat.reduceSub, Nat.reduceLeDiff, Nat.lt_irrefl, Nat.reduceLT, Nat.reduceEqDiff, Nat.reduceBEq, Int.reduceLE, Int.reduceLT, Int.reduceToNat, w64, eq_self] <;> rfl) (by decide) ?_ ?_ ⟨rfl, rfl⟩
    rotate_left
    · repeat' (first | exact trivial | apply TdT.tup | apply TdT.one | apply TdL.agg | apply TdL.cell | exact TdB.old _ trivial rfl | exact TdB.own 0 0 _ _ _ _ rfl _ rfl rfl | exact TdB.junk _ | exact TdB.old _ (by assumption) (by assumption) | refine And.intro ?_ ?_)
    all_goals (repeat' (first | (with_reducible exact RowOk.none) | ((with_reducible apply RowOk.emp); exact rfl) | ((with_reducible apply RowOk.eq); (exact rfl); rotate_left; (first | (with_reducible exact scal_int _ _) | (with_reducible exact scal_flt _ _) | (with_reducible exact scal_bool _) | (intro c hc; cases hc; done) | (simp [LV.isCell, bnd]; done))) | exact trivial | refine And.intro ?_ ?_))
    all_goals (try rfl)
theorem iLeastHashes_c (lv : LV) (ks : List Int) (s room : Int) (H : Hp) (h : RdL H lv (ks.map (LV.int .i64))) (hn : ks.length ≤ 1048576) :
    FunH Try.prog 34 [lv, .int .i64 s, .int .i64 room] H fun r H' => r = .tup [.sl H.length 0 0 (lhL ks s room).length none, .bool (lhOk ks s room)] ∧ H' = H ++ [⟨0, false, 2, 1, (lhL ks s room).map (LV.int .i64)⟩] := by
  unfold lhL
  cases e1 : keysB ks && keyB s
  · have e : lhOk ks s room = false := by unfold lhOk; rw [e1]; rfl
    simp only [e, Bool.false_eq_true, if_false]
    have hh := HashRow_c lv ks s H h hn
    rw [e1] at hh
    (refine FunH_body tyOk Try.func34 rfl (by kernel_rfl) Try.ntmps34 (fun hcl hbd => ?_); simp only [List.length_cons, List.length_nil, Nat.reduceAdd, Nat.reduceSub, List.replicate, List.cons_append, List.nil_append])
    repeat' (first
      | ((with_reducible refine hK _ _ ?_); clear hK K)
      | ((first | (with_reducible show AOp _ _ _ _ _ _ _)); simp (disch := first | ((with_reducible show liveO _ _ _ = true); first | assumption | (exact liveO_setS (by assumption)) | (exact PtL.live (by assumption)) | (exact PtL.liveA (by assumption) _) | (simp only [go_sem]; done)) | omega | assumption | rfl | (simp only [go_sem]; first | done | omega)) only [go_sem, reduceIte, reduceCtorEq, Nat.reduceAdd, Nat.reduceMul, Nat.reduceSub, Nat.reduceLeDiff, Nat.lt_irrefl, Nat.reduceLT, Nat.reduceEqDiff, Nat.reduceBEq, Int.reduceLE, Int.reduceLT, Int.reduceToNat, w64, eq_self, e1])
      | (with_reducible refine AW_seq (fun K hK => ?_))
      | (with_reducible refine AW_region tyOk ?_)
      | (with_reducible refine AOps_cons (fun K hK => ?_))
      | ((with_reducible refine AOps_nil ?_); try simp only [thenA, blockA, if_true, if_false, reduceIte, Nat.reduceEqDiff, reduceCtorEq])
      | (with_reducible refine AW_block ?_)
      | ((first | (with_reducible refine AW_ret ?_) | (with_reducible refine AW_skip ?_) | (with_reducible refine AW_exit ?_)); try simp only [thenA, blockA, if_true, if_false, reduceIte, Nat.reduceEqDiff, reduceCtorEq])
      | ((with_reducible show AW _ _ (.cond _ _ _) _ _ _); refine AW_cond rfl (fun hg => ?_) (fun hg => ?_) <;> first | (exfalso; simp only [reduceCtorEq] at hg; done) | ((try simp only [Bool.not_eq_true', Bool.not_eq_false', decide_eq_true_eq, decide_eq_false_iff_not] at hg); try (exfalso; omega)))
      | ((with_reducible show _ ∧ _); refine And.intro (fun hg => ?_) (fun hg => ?_) <;> (try simp only [Bool.not_eq_true', Bool.not_eq_false'] at hg) <;> simp only [hg] <;> (try simp only [decide_eq_true_eq, decide_eq_false_iff_not] at hg) <;> (try (exfalso; omega)))
      | ((with_reducible apply FunH_intro); (first | exact hh | exact HashRow_c _ _ _ _ (by first | assumption | exact RdL.app (by assumption) _ | exact RdL_hj rfl (by simp) | exact RdL_h0 rfl (by simp) | exact RdL_nil | exact RdL_emp) (by first | assumption | omega | (simp; omega) | (simp; done)) | exact isRoom_c _ _ | exact leastOf_c _ _ _ _ (by first | assumption | exact RdL.app (by assumption) _ | exact RdL_hj rfl (by simp) | exact RdL_h0 rfl (by simp) | exact RdL_nil | exact RdL_emp) (by first | assumption | omega | (simp; omega) | (simp; done)) (by first | assumption | omega | (simp; omega) | (simp; done))))
      | (clear hK K)
      | fail)
    first | (refine EndA_rows0 [none] hcl (by first | exact Or.inr rfl | exact Or.inl rfl) (by simp only [Try.results34, resA, aresL, go_sem, reduceIte, reduceCtorEq, Nat.reduceAdd, Nat.reduceMul, Nat.reduceSub, Nat.reduceLeDiff, Nat.lt_irrefl, Nat.reduceLT, Nat.reduceEqDiff, Nat.reduceBEq, Int.reduceLE, Int.reduceLT, Int.reduceToNat, w64, eq_self] <;> rfl) (by decide) ?_ ?_ ⟨rfl, rfl⟩) | (refine EndA_rows [none] hcl (by first | exact Or.inr rfl | exact Or.inl rfl) (by simp only [Try.results34, resA, aresL, go_sem, reduceIte, reduceCtorEq, Nat.reduceAdd, Nat.reduceMul, Nat.reduceSub, Nat.reduceLeDiff, Nat.lt_irrefl, Nat.reduceLT, Nat.reduceEqDiff, Nat.reduceBEq, Int.reduceLE, Int.reduceLT, Int.reduceToNat, w64, eq_self] <;> rfl) (by decide) ?_ ?_ ⟨rfl, rfl⟩)
    rotate_left
    · repeat' (first | exact trivial | apply TdT.tup | apply TdT.one | apply TdL.agg | apply TdL.cell | exact TdB.old _ trivial rfl | exact TdB.virt 0 rfl | exact TdB.junk _ | exact TdB.old _ (by assumption) (by assumption) | refine And.intro ?_ ?_)
    all_goals (repeat' (first | (with_reducible exact RowOk.none) | ((with_reducible apply RowOk.emp); exact rfl) | ((with_reducible apply RowOk.eq); (exact rfl); rotate_left; (first | (with_reducible exact scal_int _ _) | (with_reducible exact scal_flt _ _) | (with_reducible exact scal_bool _) | (intro c hc; cases hc; done) | (simp [LV.isCell, bnd]; done))) | exact trivial | refine And.intro ?_ ?_))
    all_goals (try rfl)
  cases e2 : inB room 1 256
  · have e : lhOk ks s room = false := by unfold lhOk; rw [e1, e2]; rfl
    simp only [e, Bool.false_eq_true, if_false]
    have hh := HashRow_c lv ks s H h hn
    rw [e1] at hh
    (refine FunH_body tyOk Try.func34 rfl (by kernel_rfl) Try.ntmps34 (fun hcl hbd => ?_); simp only [List.length_cons, List.length_nil, Nat.reduceAdd, Nat.reduceSub, List.replicate, List.cons_append, List.nil_append])
    repeat' (first
      | ((with_reducible refine hK _ _ ?_); clear hK K)
      | ((first | (with_reducible show AOp _ _ _ _ _ _ _)); simp (disch := first | ((with_reducible show liveO _ _ _ = true); first | assumption | (exact liveO_setS (by assumption)) | (exact PtL.live (by assumption)) | (exact PtL.liveA (by assumption) _) | (simp only [go_sem]; done)) | omega | assumption | rfl | (simp only [go_sem]; first | done | omega)) only [go_sem, reduceIte, reduceCtorEq, Nat.reduceAdd, Nat.reduceMul, Nat.reduceSub, Nat.reduceLeDiff, Nat.lt_irrefl, Nat.reduceLT, Nat.reduceEqDiff, Nat.reduceBEq, Int.reduceLE, Int.reduceLT, Int.reduceToNat, w64, eq_self, e1, e2])
      | (with_reducible refine AW_seq (fun K hK => ?_))
      | (with_reducible refine AW_region tyOk ?_)
      | (with_reducible refine AOps_cons (fun K hK => ?_))
      | ((with_reducible refine AOps_nil ?_); try simp only [thenA, blockA, if_true, if_false, reduceIte, Nat.reduceEqDiff, reduceCtorEq])
      | (with_reducible refine AW_block ?_)
      | ((first | (with_reducible refine AW_ret ?_) | (with_reducible refine AW_skip ?_) | (with_reducible refine AW_exit ?_)); try simp only [thenA, blockA, if_true, if_false, reduceIte, Nat.reduceEqDiff, reduceCtorEq])
      | ((with_reducible show AW _ _ (.cond _ _ _) _ _ _); refine AW_cond rfl (fun hg => ?_) (fun hg => ?_) <;> first | (exfalso; simp only [reduceCtorEq] at hg; done) | ((try simp only [Bool.not_eq_true', Bool.not_eq_false', decide_eq_true_eq, decide_eq_false_iff_not] at hg); try (exfalso; omega)))
      | ((with_reducible show _ ∧ _); refine And.intro (fun hg => ?_) (fun hg => ?_) <;> (try simp only [Bool.not_eq_true', Bool.not_eq_false'] at hg) <;> simp only [hg] <;> (try simp only [decide_eq_true_eq, decide_eq_false_iff_not] at hg) <;> (try (exfalso; omega)))
      | ((with_reducible apply FunH_intro); (first | exact hh | exact HashRow_c _ _ _ _ (by first | assumption | exact RdL.app (by assumption) _ | exact RdL_hj rfl (by simp) | exact RdL_h0 rfl (by simp) | exact RdL_nil | exact RdL_emp) (by first | assumption | omega | (simp; omega) | (simp; done)) | exact isRoom_c _ _ | exact leastOf_c _ _ _ _ (by first | assumption | exact RdL.app (by assumption) _ | exact RdL_hj rfl (by simp) | exact RdL_h0 rfl (by simp) | exact RdL_nil | exact RdL_emp) (by first | assumption | omega | (simp; omega) | (simp; done)) (by first | assumption | omega | (simp; omega) | (simp; done))))
      | (clear hK K)
      | fail)
    first | (refine EndA_rows0 [none] hcl (by first | exact Or.inr rfl | exact Or.inl rfl) (by simp only [Try.results34, resA, aresL, go_sem, reduceIte, reduceCtorEq, Nat.reduceAdd, Nat.reduceMul, Nat.reduceSub, Nat.reduceLeDiff, Nat.lt_irrefl, Nat.reduceLT, Nat.reduceEqDiff, Nat.reduceBEq, Int.reduceLE, Int.reduceLT, Int.reduceToNat, w64, eq_self] <;> rfl) (by decide) ?_ ?_ ⟨rfl, rfl⟩) | (refine EndA_rows [none] hcl (by first | exact Or.inr rfl | exact Or.inl rfl) (by simp only [Try.results34, resA, aresL, go_sem, reduceIte, reduceCtorEq, Nat.reduceAdd, Nat.reduceMul, Nat.reduceSub, Nat.reduceLeDiff, Nat.lt_irrefl, Nat.reduceLT, Nat.reduceEqDiff, Nat.reduceBEq, Int.reduceLE, Int.reduceLT, Int.reduceToNat, w64, eq_self] <;> rfl) (by decide) ?_ ?_ ⟨rfl, rfl⟩)
    rotate_left
    · repeat' (first | exact trivial | apply TdT.tup | apply TdT.one | apply TdL.agg | apply TdL.cell | exact TdB.old _ trivial rfl | exact TdB.virt 0 rfl | exact TdB.junk _ | exact TdB.old _ (by assumption) (by assumption) | refine And.intro ?_ ?_)
    all_goals (repeat' (first | (with_reducible exact RowOk.none) | ((with_reducible apply RowOk.emp); exact rfl) | ((with_reducible apply RowOk.eq); (exact rfl); rotate_left; (first | (with_reducible exact scal_int _ _) | (with_reducible exact scal_flt _ _) | (with_reducible exact scal_bool _) | (intro c hc; cases hc; done) | (simp [LV.isCell, bnd]; done))) | exact trivial | refine And.intro ?_ ?_))
    all_goals (try rfl)
  · have e : lhOk ks s room = true := by unfold lhOk; rw [e1, e2]; rfl
    simp only [e, if_true]
    have hr : 1 ≤ room ∧ room ≤ 256 := by simpa [inB] using e2
    have hh := HashRow_c lv ks s H h hn
    rw [e1] at hh
    simp only [if_true, rowI_len] at hh
    have hl := rowI_len ks s
    have hle := leastOf_c (.sl H.length 0 0 ks.length none) (rowI ks s) room (H ++ [⟨0, false, 2, 1, (rowI ks s).map (LV.int .i64)⟩]) (RdL_h0 rfl (by simp [hl])) (by omega) hr
    (refine FunH_body tyOk Try.func34 rfl (by kernel_rfl) Try.ntmps34 (fun hcl hbd => ?_); simp only [List.length_cons, List.length_nil, Nat.reduceAdd, Nat.reduceSub, List.replicate, List.cons_append, List.nil_append])
    repeat' (first
      | ((with_reducible refine hK _ _ ?_); clear hK K)
      | ((first | (with_reducible show AOp _ _ _ _ _ _ _)); simp (disch := first | ((with_reducible show liveO _ _ _ = true); first | assumption | (exact liveO_setS (by assumption)) | (exact PtL.live (by assumption)) | (exact PtL.liveA (by assumption) _) | (simp only [go_sem]; done)) | omega | assumption | rfl | (simp only [go_sem]; first | done | omega)) only [go_sem, reduceIte, reduceCtorEq, Nat.reduceAdd, Nat.reduceMul, Nat.reduceSub, Nat.reduceLeDiff, Nat.lt_irrefl, Nat.reduceLT, Nat.reduceEqDiff, Nat.reduceBEq, Int.reduceLE, Int.reduceLT, Int.reduceToNat, w64, eq_self, e1, e2])
      | (with_reducible refine AW_seq (fun K hK => ?_))
      | (with_reducible refine AW_region tyOk ?_)
      | (with_reducible refine AOps_cons (fun K hK => ?_))
      | ((with_reducible refine AOps_nil ?_); try simp only [thenA, blockA, if_true, if_false, reduceIte, Nat.reduceEqDiff, reduceCtorEq])
      | (with_reducible refine AW_block ?_)
      | ((first | (with_reducible refine AW_ret ?_) | (with_reducible refine AW_skip ?_) | (with_reducible refine AW_exit ?_)); try simp only [thenA, blockA, if_true, if_false, reduceIte, Nat.reduceEqDiff, reduceCtorEq])
      | ((with_reducible show AW _ _ (.cond _ _ _) _ _ _); refine AW_cond rfl (fun hg => ?_) (fun hg => ?_) <;> first | (exfalso; simp only [reduceCtorEq] at hg; done) | ((try simp only [Bool.not_eq_true', Bool.not_eq_false', decide_eq_true_eq, decide_eq_false_iff_not] at hg); try (exfalso; omega)))
      | ((with_reducible show _ ∧ _); refine And.intro (fun hg => ?_) (fun hg => ?_) <;> (try simp only [Bool.not_eq_true', Bool.not_eq_false'] at hg) <;> simp only [hg] <;> (try simp only [decide_eq_true_eq, decide_eq_false_iff_not] at hg) <;> (try (exfalso; omega)))
      | ((with_reducible apply FunH_intro); (first | exact hh | exact hle | exact HashRow_c _ _ _ _ (by first | assumption | exact RdL.app (by assumption) _ | exact RdL_hj rfl (by simp) | exact RdL_h0 rfl (by simp) | exact RdL_nil | exact RdL_emp) (by first | assumption | omega | (simp; omega) | (simp; done)) | exact isRoom_c _ _ | exact leastOf_c _ _ _ _ (by first | assumption | exact RdL.app (by assumption) _ | exact RdL_hj rfl (by simp) | exact RdL_h0 rfl (by simp) | exact RdL_nil | exact RdL_emp) (by first | assumption | omega | (simp; omega) | (simp; done)) (by first | assumption | omega | (simp; omega) | (simp; done))))
      | (clear hK K)
      | fail)
    refine EndA_rows [some 1] hcl (by first | exact Or.inr rfl | exact Or.inl rfl) (by simp only [Try.results34, resA, aresL, go_sem, reduceIte, reduceCtorEq, Nat.reduceAdd, Nat.reduceMul, Nat.reduceSub, Nat.reduceLeDiff, Nat.lt_irrefl, Nat.reduceLT, Nat.reduceEqDiff, Nat.reduceBEq, Int.reduceLE, Int.reduceLT, Int.reduceToNat, w64, eq_self] <;> rfl) (by decide) ?_ ?_ ⟨rfl, rfl⟩
    rotate_left
    · repeat' (first | exact trivial | apply TdT.tup | apply TdT.one | apply TdL.agg | apply TdL.cell | exact TdB.old _ trivial rfl | exact TdB.own 0 1 _ _ _ _ rfl _ rfl rfl | exact TdB.junk _ | exact TdB.old _ (by assumption) (by assumption) | refine And.intro ?_ ?_)
    all_goals (repeat' (first | (with_reducible exact RowOk.none) | ((with_reducible apply RowOk.emp); exact rfl) | ((with_reducible apply RowOk.eq); (exact rfl); rotate_left; (first | (with_reducible exact scal_int _ _) | (with_reducible exact scal_flt _ _) | (with_reducible exact scal_bool _) | (intro c hc; cases hc; done) | (simp [LV.isCell, bnd]; done))) | exact trivial | refine And.intro ?_ ?_))
    all_goals (try rfl)
theorem sLeastHashes_c (lv : LV) (ks : List Int) (s room : Int) (H : Hp) (h : RdL H lv (ks.map (LV.int .i64))) (hn : ks.length ≤ 1048576) :
    FunH Try.prog 33 [lv, .int .i64 s, .int .i64 room] H fun r H' => r = .tup [.sl H.length 0 0 (lhL ks s room).length none, .bool (lhOk ks s room)] ∧ H' = H ++ [⟨0, false, 2, 1, (lhL ks s room).map (LV.int .i64)⟩] := by
  unfold lhL
  cases e1 : keysB ks
  · have e : lhOk ks s room = false := by unfold lhOk; rw [e1]; rfl
    simp only [e, Bool.false_eq_true, if_false]
    (refine FunH_body tyOk Try.func33 rfl (by kernel_rfl) Try.ntmps33 (fun hcl hbd => ?_); simp only [List.length_cons, List.length_nil, Nat.reduceAdd, Nat.reduceSub, List.replicate, List.cons_append, List.nil_append])
    repeat' (first
      | ((with_reducible refine hK _ _ ?_); clear hK K)
      | ((first | (with_reducible show AOp _ _ _ _ _ _ _)); simp (disch := first | ((with_reducible show liveO _ _ _ = true); first | assumption | (exact liveO_setS (by assumption)) | (exact PtL.live (by assumption)) | (exact PtL.liveA (by assumption) _) | (simp only [go_sem]; done)) | omega | assumption | rfl | (simp only [go_sem]; first | done | omega)) only [go_sem, reduceIte, reduceCtorEq, Nat.reduceAdd, Nat.reduceMul, Nat.reduceSub, Nat.reduceLeDiff, Nat.lt_irrefl, Nat.reduceLT, Nat.reduceEqDiff, Nat.reduceBEq, Int.reduceLE, Int.reduceLT, Int.reduceToNat, w64, eq_self, e1])
      | (with_reducible refine AW_seq (fun K hK => ?_))
      | (with_reducible refine AW_region tyOk ?_)
      | (with_reducible refine AOps_cons (fun K hK => ?_))
      | ((with_reducible refine AOps_nil ?_); try simp only [thenA, blockA, if_true, if_false, reduceIte, Nat.reduceEqDiff, reduceCtorEq])
      | (with_reducible refine AW_block ?_)
      | ((first | (with_reducible refine AW_ret ?_) | (with_reducible refine AW_skip ?_) | (with_reducible refine AW_exit ?_)); try simp only [thenA, blockA, if_true, if_false, reduceIte, Nat.reduceEqDiff, reduceCtorEq])
      | ((with_reducible show AW _ _ (.cond _ _ _) _ _ _); refine AW_cond rfl (fun hg => ?_) (fun hg => ?_) <;> first | (exfalso; simp only [reduceCtorEq] at hg; done) | ((try simp only [Bool.not_eq_true', Bool.not_eq_false', decide_eq_true_eq, decide_eq_false_iff_not] at hg); try (exfalso; omega)))
      | ((with_reducible show _ ∧ _); refine And.intro (fun hg => ?_) (fun hg => ?_) <;> (try simp only [Bool.not_eq_true', Bool.not_eq_false'] at hg) <;> simp only [hg] <;> (try simp only [decide_eq_true_eq, decide_eq_false_iff_not] at hg) <;> (try (exfalso; omega)))
      | ((with_reducible apply FunH_intro); (first | exact l02Keys_c _ _ _ (by first | assumption | exact RdL.app (by assumption) _ | exact RdL_hj rfl (by simp) | exact RdL_h0 rfl (by simp) | exact RdL_nil | exact RdL_emp) (by first | assumption | omega | (simp; omega) | (simp; done)) | exact l02Key_c _ _ | exact l04Room_c _ _ | exact l04Least_c _ _ _ _ (by first | assumption | exact RdL.app (by assumption) _ | exact RdL_hj rfl (by simp) | exact RdL_h0 rfl (by simp) | exact RdL_nil | exact RdL_emp) (by first | assumption | omega | (simp; omega) | (simp; done)) (by first | assumption | omega | (simp; omega) | (simp; done)) | exact l02Row_c _ _ _ _ (by first | assumption | exact RdL.app (by assumption) _ | exact RdL_hj rfl (by simp) | exact RdL_h0 rfl (by simp) | exact RdL_nil | exact RdL_emp) (by first | assumption | omega | (simp; omega) | (simp; done)) (by first | assumption | (simp; done)) (by first | assumption | omega | (simp; omega) | (simp; done))))
      | (clear hK K)
      | fail)
    first | (refine EndA_rows0 [none] hcl (by first | exact Or.inr rfl | exact Or.inl rfl) (by simp only [Try.results33, resA, aresL, go_sem, reduceIte, reduceCtorEq, Nat.reduceAdd, Nat.reduceMul, Nat.reduceSub, Nat.reduceLeDiff, Nat.lt_irrefl, Nat.reduceLT, Nat.reduceEqDiff, Nat.reduceBEq, Int.reduceLE, Int.reduceLT, Int.reduceToNat, w64, eq_self] <;> rfl) (by decide) ?_ ?_ ⟨rfl, rfl⟩) | (refine EndA_rows [none] hcl (by first | exact Or.inr rfl | exact Or.inl rfl) (by simp only [Try.results33, resA, aresL, go_sem, reduceIte, reduceCtorEq, Nat.reduceAdd, Nat.reduceMul, Nat.reduceSub, Nat.reduceLeDiff, Nat.lt_irrefl, Nat.reduceLT, Nat.reduceEqDiff, Nat.reduceBEq, Int.reduceLE, Int.reduceLT, Int.reduceToNat, w64, eq_self] <;> rfl) (by decide) ?_ ?_ ⟨rfl, rfl⟩)
    rotate_left
    · repeat' (first | exact trivial | apply TdT.tup | apply TdT.one | apply TdL.agg | apply TdL.cell | exact TdB.old _ trivial rfl | exact TdB.virt 0 rfl | exact TdB.junk _ | exact TdB.old _ (by assumption) (by assumption) | refine And.intro ?_ ?_)
    all_goals (repeat' (first | (with_reducible exact RowOk.none) | ((with_reducible apply RowOk.emp); exact rfl) | ((with_reducible apply RowOk.eq); (exact rfl); rotate_left; (first | (with_reducible exact scal_int _ _) | (with_reducible exact scal_flt _ _) | (with_reducible exact scal_bool _) | (intro c hc; cases hc; done) | (simp [LV.isCell, bnd]; done))) | exact trivial | refine And.intro ?_ ?_))
    all_goals (try rfl)
  cases e3 : keyB s
  · have e : lhOk ks s room = false := by unfold lhOk; rw [e1, e3]; rfl
    simp only [e, Bool.false_eq_true, if_false]
    (refine FunH_body tyOk Try.func33 rfl (by kernel_rfl) Try.ntmps33 (fun hcl hbd => ?_); simp only [List.length_cons, List.length_nil, Nat.reduceAdd, Nat.reduceSub, List.replicate, List.cons_append, List.nil_append])
    repeat' (first
      | ((with_reducible refine hK _ _ ?_); clear hK K)
      | ((first | (with_reducible show AOp _ _ _ _ _ _ _)); simp (disch := first | ((with_reducible show liveO _ _ _ = true); first | assumption | (exact liveO_setS (by assumption)) | (exact PtL.live (by assumption)) | (exact PtL.liveA (by assumption) _) | (simp only [go_sem]; done)) | omega | assumption | rfl | (simp only [go_sem]; first | done | omega)) only [go_sem, reduceIte, reduceCtorEq, Nat.reduceAdd, Nat.reduceMul, Nat.reduceSub, Nat.reduceLeDiff, Nat.lt_irrefl, Nat.reduceLT, Nat.reduceEqDiff, Nat.reduceBEq, Int.reduceLE, Int.reduceLT, Int.reduceToNat, w64, eq_self, e1, e3])
      | (with_reducible refine AW_seq (fun K hK => ?_))
      | (with_reducible refine AW_region tyOk ?_)
      | (with_reducible refine AOps_cons (fun K hK => ?_))
      | ((with_reducible refine AOps_nil ?_); try simp only [thenA, blockA, if_true, if_false, reduceIte, Nat.reduceEqDiff, reduceCtorEq])
      | (with_reducible refine AW_block ?_)
      | ((first | (with_reducible refine AW_ret ?_) | (with_reducible refine AW_skip ?_) | (with_reducible refine AW_exit ?_)); try simp only [thenA, blockA, if_true, if_false, reduceIte, Nat.reduceEqDiff, reduceCtorEq])
      | ((with_reducible show AW _ _ (.cond _ _ _) _ _ _); refine AW_cond rfl (fun hg => ?_) (fun hg => ?_) <;> first | (exfalso; simp only [reduceCtorEq] at hg; done) | ((try simp only [Bool.not_eq_true', Bool.not_eq_false', decide_eq_true_eq, decide_eq_false_iff_not] at hg); try (exfalso; omega)))
      | ((with_reducible show _ ∧ _); refine And.intro (fun hg => ?_) (fun hg => ?_) <;> (try simp only [Bool.not_eq_true', Bool.not_eq_false'] at hg) <;> simp only [hg] <;> (try simp only [decide_eq_true_eq, decide_eq_false_iff_not] at hg) <;> (try (exfalso; omega)))
      | ((with_reducible apply FunH_intro); (first | exact l02Keys_c _ _ _ (by first | assumption | exact RdL.app (by assumption) _ | exact RdL_hj rfl (by simp) | exact RdL_h0 rfl (by simp) | exact RdL_nil | exact RdL_emp) (by first | assumption | omega | (simp; omega) | (simp; done)) | exact l02Key_c _ _ | exact l04Room_c _ _ | exact l04Least_c _ _ _ _ (by first | assumption | exact RdL.app (by assumption) _ | exact RdL_hj rfl (by simp) | exact RdL_h0 rfl (by simp) | exact RdL_nil | exact RdL_emp) (by first | assumption | omega | (simp; omega) | (simp; done)) (by first | assumption | omega | (simp; omega) | (simp; done)) | exact l02Row_c _ _ _ _ (by first | assumption | exact RdL.app (by assumption) _ | exact RdL_hj rfl (by simp) | exact RdL_h0 rfl (by simp) | exact RdL_nil | exact RdL_emp) (by first | assumption | omega | (simp; omega) | (simp; done)) (by first | assumption | (simp; done)) (by first | assumption | omega | (simp; omega) | (simp; done))))
      | (clear hK K)
      | fail)
    first | (refine EndA_rows0 [none] hcl (by first | exact Or.inr rfl | exact Or.inl rfl) (by simp only [Try.results33, resA, aresL, go_sem, reduceIte, reduceCtorEq, Nat.reduceAdd, Nat.reduceMul, Nat.reduceSub, Nat.reduceLeDiff, Nat.lt_irrefl, Nat.reduceLT, Nat.reduceEqDiff, Nat.reduceBEq, Int.reduceLE, Int.reduceLT, Int.reduceToNat, w64, eq_self] <;> rfl) (by decide) ?_ ?_ ⟨rfl, rfl⟩) | (refine EndA_rows [none] hcl (by first | exact Or.inr rfl | exact Or.inl rfl) (by simp only [Try.results33, resA, aresL, go_sem, reduceIte, reduceCtorEq, Nat.reduceAdd, Nat.reduceMul, Nat.reduceSub, Nat.reduceLeDiff, Nat.lt_irrefl, Nat.reduceLT, Nat.reduceEqDiff, Nat.reduceBEq, Int.reduceLE, Int.reduceLT, Int.reduceToNat, w64, eq_self] <;> rfl) (by decide) ?_ ?_ ⟨rfl, rfl⟩)
    rotate_left
    · repeat' (first | exact trivial | apply TdT.tup | apply TdT.one | apply TdL.agg | apply TdL.cell | exact TdB.old _ trivial rfl | exact TdB.virt 0 rfl | exact TdB.junk _ | exact TdB.old _ (by assumption) (by assumption) | refine And.intro ?_ ?_)
    all_goals (repeat' (first | (with_reducible exact RowOk.none) | ((with_reducible apply RowOk.emp); exact rfl) | ((with_reducible apply RowOk.eq); (exact rfl); rotate_left; (first | (with_reducible exact scal_int _ _) | (with_reducible exact scal_flt _ _) | (with_reducible exact scal_bool _) | (intro c hc; cases hc; done) | (simp [LV.isCell, bnd]; done))) | exact trivial | refine And.intro ?_ ?_))
    all_goals (try rfl)
  cases e2 : inB room 1 256
  · have e : lhOk ks s room = false := by unfold lhOk; rw [e1, e2, e3]; rfl
    simp only [e, Bool.false_eq_true, if_false]
    (refine FunH_body tyOk Try.func33 rfl (by kernel_rfl) Try.ntmps33 (fun hcl hbd => ?_); simp only [List.length_cons, List.length_nil, Nat.reduceAdd, Nat.reduceSub, List.replicate, List.cons_append, List.nil_append])
    repeat' (first
      | ((with_reducible refine hK _ _ ?_); clear hK K)
      | ((first | (with_reducible show AOp _ _ _ _ _ _ _)); simp (disch := first | ((with_reducible show liveO _ _ _ = true); first | assumption | (exact liveO_setS (by assumption)) | (exact PtL.live (by assumption)) | (exact PtL.liveA (by assumption) _) | (simp only [go_sem]; done)) | omega | assumption | rfl | (simp only [go_sem]; first | done | omega)) only [go_sem, reduceIte, reduceCtorEq, Nat.reduceAdd, Nat.reduceMul, Nat.reduceSub, Nat.reduceLeDiff, Nat.lt_irrefl, Nat.reduceLT, Nat.reduceEqDiff, Nat.reduceBEq, Int.reduceLE, Int.reduceLT, Int.reduceToNat, w64, eq_self, e1, e2, e3])
      | (with_reducible refine AW_seq (fun K hK => ?_))
      | (with_reducible refine AW_region tyOk ?_)
      | (with_reducible refine AOps_cons (fun K hK => ?_))
      | ((with_reducible refine AOps_nil ?_); try simp only [thenA, blockA, if_true, if_false, reduceIte, Nat.reduceEqDiff, reduceCtorEq])
      | (with_reducible refine AW_block ?_)
      | ((first | (with_reducible refine AW_ret ?_) | (with_reducible refine AW_skip ?_) | (with_reducible refine AW_exit ?_)); try simp only [thenA, blockA, if_true, if_false, reduceIte, Nat.reduceEqDiff, reduceCtorEq])
      | ((with_reducible show AW _ _ (.cond _ _ _) _ _ _); refine AW_cond rfl (fun hg => ?_) (fun hg => ?_) <;> first | (exfalso; simp only [reduceCtorEq] at hg; done) | ((try simp only [Bool.not_eq_true', Bool.not_eq_false', decide_eq_true_eq, decide_eq_false_iff_not] at hg); try (exfalso; omega)))
      | ((with_reducible show _ ∧ _); refine And.intro (fun hg => ?_) (fun hg => ?_) <;> (try simp only [Bool.not_eq_true', Bool.not_eq_false'] at hg) <;> simp only [hg] <;> (try simp only [decide_eq_true_eq, decide_eq_false_iff_not] at hg) <;> (try (exfalso; omega)))
      | ((with_reducible apply FunH_intro); (first | exact l02Keys_c _ _ _ (by first | assumption | exact RdL.app (by assumption) _ | exact RdL_hj rfl (by simp) | exact RdL_h0 rfl (by simp) | exact RdL_nil | exact RdL_emp) (by first | assumption | omega | (simp; omega) | (simp; done)) | exact l02Key_c _ _ | exact l04Room_c _ _ | exact l04Least_c _ _ _ _ (by first | assumption | exact RdL.app (by assumption) _ | exact RdL_hj rfl (by simp) | exact RdL_h0 rfl (by simp) | exact RdL_nil | exact RdL_emp) (by first | assumption | omega | (simp; omega) | (simp; done)) (by first | assumption | omega | (simp; omega) | (simp; done)) | exact l02Row_c _ _ _ _ (by first | assumption | exact RdL.app (by assumption) _ | exact RdL_hj rfl (by simp) | exact RdL_h0 rfl (by simp) | exact RdL_nil | exact RdL_emp) (by first | assumption | omega | (simp; omega) | (simp; done)) (by first | assumption | (simp; done)) (by first | assumption | omega | (simp; omega) | (simp; done))))
      | (clear hK K)
      | fail)
    first | (refine EndA_rows0 [none] hcl (by first | exact Or.inr rfl | exact Or.inl rfl) (by simp only [Try.results33, resA, aresL, go_sem, reduceIte, reduceCtorEq, Nat.reduceAdd, Nat.reduceMul, Nat.reduceSub, Nat.reduceLeDiff, Nat.lt_irrefl, Nat.reduceLT, Nat.reduceEqDiff, Nat.reduceBEq, Int.reduceLE, Int.reduceLT, Int.reduceToNat, w64, eq_self] <;> rfl) (by decide) ?_ ?_ ⟨rfl, rfl⟩) | (refine EndA_rows [none] hcl (by first | exact Or.inr rfl | exact Or.inl rfl) (by simp only [Try.results33, resA, aresL, go_sem, reduceIte, reduceCtorEq, Nat.reduceAdd, Nat.reduceMul, Nat.reduceSub, Nat.reduceLeDiff, Nat.lt_irrefl, Nat.reduceLT, Nat.reduceEqDiff, Nat.reduceBEq, Int.reduceLE, Int.reduceLT, Int.reduceToNat, w64, eq_self] <;> rfl) (by decide) ?_ ?_ ⟨rfl, rfl⟩)
    rotate_left
    · repeat' (first | exact trivial | apply TdT.tup | apply TdT.one | apply TdL.agg | apply TdL.cell | exact TdB.old _ trivial rfl | exact TdB.virt 0 rfl | exact TdB.junk _ | exact TdB.old _ (by assumption) (by assumption) | refine And.intro ?_ ?_)
    all_goals (repeat' (first | (with_reducible exact RowOk.none) | ((with_reducible apply RowOk.emp); exact rfl) | ((with_reducible apply RowOk.eq); (exact rfl); rotate_left; (first | (with_reducible exact scal_int _ _) | (with_reducible exact scal_flt _ _) | (with_reducible exact scal_bool _) | (intro c hc; cases hc; done) | (simp [LV.isCell, bnd]; done))) | exact trivial | refine And.intro ?_ ?_))
    all_goals (try rfl)
  · have e : lhOk ks s room = true := by unfold lhOk; rw [e1, e2, e3]; rfl
    simp only [e, if_true]
    obtain ⟨k1, k2⟩ := keysB_all e1
    have hr : 1 ≤ room ∧ room ≤ 256 := by simpa [inB] using e2
    have hh := l02Row_c lv ks s H h hn k2 ((keyB_iff s).1 e3)
    have hl := rowI_len ks s
    have hle := l04Least_c (.sl H.length 0 0 ks.length none) (rowI ks s) room (H ++ [⟨0, false, 2, 1, (rowI ks s).map (LV.int .i64)⟩]) (RdL_h0 rfl (by simp [hl])) (by omega) hr
    (refine FunH_body tyOk Try.func33 rfl (by kernel_rfl) Try.ntmps33 (fun hcl hbd => ?_); simp only [List.length_cons, List.length_nil, Nat.reduceAdd, Nat.reduceSub, List.replicate, List.cons_append, List.nil_append])
    repeat' (first
      | ((with_reducible refine hK _ _ ?_); clear hK K)
      | ((first | (with_reducible show AOp _ _ _ _ _ _ _)); simp (disch := first | ((with_reducible show liveO _ _ _ = true); first | assumption | (exact liveO_setS (by assumption)) | (exact PtL.live (by assumption)) | (exact PtL.liveA (by assumption) _) | (simp only [go_sem]; done)) | omega | assumption | rfl | (simp only [go_sem]; first | done | omega)) only [go_sem, reduceIte, reduceCtorEq, Nat.reduceAdd, Nat.reduceMul, Nat.reduceSub, Nat.reduceLeDiff, Nat.lt_irrefl, Nat.reduceLT, Nat.reduceEqDiff, Nat.reduceBEq, Int.reduceLE, Int.reduceLT, Int.reduceToNat, w64, eq_self, e1, e2, e3])
      | (with_reducible refine AW_seq (fun K hK => ?_))
      | (with_reducible refine AW_region tyOk ?_)
      | (with_reducible refine AOps_cons (fun K hK => ?_))
      | ((with_reducible refine AOps_nil ?_); try simp only [thenA, blockA, if_true, if_false, reduceIte, Nat.reduceEqDiff, reduceCtorEq])
      | (with_reducible refine AW_block ?_)
      | ((first | (with_reducible refine AW_ret ?_) | (with_reducible refine AW_skip ?_) | (with_reducible refine AW_exit ?_)); try simp only [thenA, blockA, if_true, if_false, reduceIte, Nat.reduceEqDiff, reduceCtorEq])
      | ((with_reducible show AW _ _ (.cond _ _ _) _ _ _); refine AW_cond rfl (fun hg => ?_) (fun hg => ?_) <;> first | (exfalso; simp only [reduceCtorEq] at hg; done) | ((try simp only [Bool.not_eq_true', Bool.not_eq_false', decide_eq_true_eq, decide_eq_false_iff_not] at hg); try (exfalso; omega)))
      | ((with_reducible show _ ∧ _); refine And.intro (fun hg => ?_) (fun hg => ?_) <;> (try simp only [Bool.not_eq_true', Bool.not_eq_false'] at hg) <;> simp only [hg] <;> (try simp only [decide_eq_true_eq, decide_eq_false_iff_not] at hg) <;> (try (exfalso; omega)))
      | ((with_reducible apply FunH_intro); (first | exact hh | exact hle | exact l02Keys_c _ _ _ (by first | assumption | exact RdL.app (by assumption) _ | exact RdL_hj rfl (by simp) | exact RdL_h0 rfl (by simp) | exact RdL_nil | exact RdL_emp) (by first | assumption | omega | (simp; omega) | (simp; done)) | exact l02Key_c _ _ | exact l04Room_c _ _ | exact l04Least_c _ _ _ _ (by first | assumption | exact RdL.app (by assumption) _ | exact RdL_hj rfl (by simp) | exact RdL_h0 rfl (by simp) | exact RdL_nil | exact RdL_emp) (by first | assumption | omega | (simp; omega) | (simp; done)) (by first | assumption | omega | (simp; omega) | (simp; done)) | exact l02Row_c _ _ _ _ (by first | assumption | exact RdL.app (by assumption) _ | exact RdL_hj rfl (by simp) | exact RdL_h0 rfl (by simp) | exact RdL_nil | exact RdL_emp) (by first | assumption | omega | (simp; omega) | (simp; done)) (by first | assumption | (simp; done)) (by first | assumption | omega | (simp; omega) | (simp; done))))
      | (clear hK K)
      | fail)
    refine EndA_rows [some 1] hcl (by first | exact Or.inr rfl | exact Or.inl rfl) (by simp only [Try.results33, resA, aresL, go_sem, reduceIte, reduceCtorEq, Nat.reduceAdd, Nat.reduceMul, Nat.reduceSub, Nat.reduceLeDiff, Nat.lt_irrefl, Nat.reduceLT, Nat.reduceEqDiff, Nat.reduceBEq, Int.reduceLE, Int.reduceLT, Int.reduceToNat, w64, eq_self] <;> rfl) (by decide) ?_ ?_ ⟨rfl, rfl⟩
    rotate_left
    · repeat' (first | exact trivial | apply TdT.tup | apply TdT.one | apply TdL.agg | apply TdL.cell | exact TdB.old _ trivial rfl | exact TdB.own 0 1 _ _ _ _ rfl _ rfl rfl | exact TdB.junk _ | exact TdB.old _ (by assumption) (by assumption) | refine And.intro ?_ ?_)
    all_goals (repeat' (first | (with_reducible exact RowOk.none) | ((with_reducible apply RowOk.emp); exact rfl) | ((with_reducible apply RowOk.eq); (exact rfl); rotate_left; (first | (with_reducible exact scal_int _ _) | (with_reducible exact scal_flt _ _) | (with_reducible exact scal_bool _) | (intro c hc; cases hc; done) | (simp [LV.isCell, bnd]; done))) | exact trivial | refine And.intro ?_ ?_))
    all_goals (try rfl)
end Go.Proofs.Ytfofkebkcjkjeaa
