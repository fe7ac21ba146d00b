/- MeansOfWindow in the abstract machine. -/
import Derived.Test.YtldbojmonegdbaaBl
namespace Go.Proofs.Ytldbojmonegdbaa
open Go.RowKit
set_option linter.unusedSimpArgs false
set_option linter.unusedVariables false
set_option maxRecDepth 100000

theorem slice_lastF {lv : LV} {xs : List (Option Nat)} {H : Hp} (h : RdL H lv (xs.map (LV.flt .f32))) {i : Nat} (hi : i < xs.length) (l : Int) (hl0 : 1 ≤ l) :
    asliceS ⟨.flt .f32, 1, 4, [.flt .f32 (some 0)]⟩ H lv (some (.int .i64 (fromW i l : Nat))) (some (.int .i64 ((i : Int) + 1))) none = some (subOf lv (fromW i l) (i + 1 - fromW i l)) := by
  have e1 := fromW_eq i l
  rw [h.slice rfl (by omega) (by omega) (by simp; omega)]
  have e2 : ((i : Int) + 1).toNat = i + 1 := by omega
  rw [e2, Int.toNat_natCast]
theorem lastOnesF_c (lv : LV) (xs : List (Option Nat)) (i : Nat) (l : Int) (H : Hp) (h : RdL H lv (xs.map (LV.flt .f32))) (hi : i < xs.length) (hn : xs.length ≤ 1048576) (hl0 : 1 ≤ l) (hl1 : l ≤ 128) :
    FunH Try.prog 73 [lv, .int .i64 (i : Nat), .int .i64 l] H fun r H' => r = subOf lv (fromW i l) (i + 1 - fromW i l) ∧ H' = H := by
  have hls := slice_lastF h hi l hl0
  obtain ⟨id, ver, off, cap, rfl⟩ := h.isSl hi
  (refine FunH_body tyOk Try.func73 rfl (by kernel_rfl) Try.ntmps73 (fun hcl hbd => ?_); simp only [List.length_cons, List.length_nil, Nat.reduceAdd, Nat.reduceSub, List.replicate, List.cons_append, List.nil_append])
  repeat' (first
    | ((with_reducible refine hK _ _ ?_); clear hK K)
    | (with_reducible refine AW_seq (fun K hK => ?_))
    | (with_reducible refine AW_region tyOk ?_)
    | ((with_reducible refine AOps_cons (fun K hK => ?_)); simp (disch := first | omega | assumption | rfl | (exact liveO_setS (by assumption)) | (simp only [go_sem]; first | done | omega)) only [go_sem, reduceIte, reduceCtorEq, Nat.reduceAdd, Nat.reduceMul, Nat.reduceSub, Nat.reduceLeDiff, Nat.lt_irrefl, Nat.reduceEqDiff, Nat.reduceBEq, Int.reduceLE, Int.reduceLT, Int.reduceToNat, w64, eq_self, aminmax, ifW, hls])
    | ((with_reducible refine AOps_nil ?_); try simp only [thenA, blockA, if_true, if_false, reduceIte])
    | (with_reducible refine AW_block ?_)
    | ((with_reducible refine AW_ret ?_); try simp only [thenA, blockA])
    | ((with_reducible refine AW_skip ?_); try simp only [thenA, blockA])
    | ((with_reducible refine AW_exit ?_); try simp only [thenA, blockA, if_true, if_false, reduceIte, Nat.reduceEqDiff, reduceCtorEq])
    | ((with_reducible show AW _ _ (.cond _ _ _) _ _ _); refine AW_cond rfl (fun hg => ?_) (fun hg => ?_) <;> first | (exfalso; simp only [reduceCtorEq] at hg; done) | ((try simp only [Bool.not_eq_true', Bool.not_eq_false', decide_eq_true_eq, decide_eq_false_iff_not] at hg); try (exfalso; omega)))
    | ((with_reducible show _ ∧ _); refine And.intro (fun hg => ?_) (fun hg => ?_) <;> (try simp only [Bool.not_eq_true', Bool.not_eq_false'] at hg) <;> simp only [hg] <;> (try simp only [decide_eq_true_eq, decide_eq_false_iff_not] at hg))
    | (clear hK K)
    | fail)
  all_goals (first | refine EndA_cut hcl (by first | exact Or.inr rfl | exact Or.inl rfl) (by simp only [Try.results73, resA, aresL, go_sem, reduceIte, reduceCtorEq, Nat.reduceAdd, Nat.reduceMul, Nat.reduceSub, Nat.reduceLeDiff, Nat.lt_irrefl, Nat.reduceEqDiff, Nat.reduceBEq, Int.reduceLE, Int.reduceLT, Int.reduceToNat, w64, eq_self, subOf] <;> rfl) rfl ?_ | refine EndA_same (by first | exact Or.inr rfl | exact Or.inl rfl) (by simp only [Try.results73, resA, aresL, go_sem, reduceIte, reduceCtorEq, Nat.reduceAdd, Nat.reduceMul, Nat.reduceSub, Nat.reduceLeDiff, Nat.lt_irrefl, Nat.reduceEqDiff, Nat.reduceBEq, Int.reduceLE, Int.reduceLT, Int.reduceToNat, w64, eq_self, subOf] <;> rfl) ?_)
  all_goals exact ⟨rfl, rfl⟩
def fsum (xs : List (Option Nat)) : Option Nat := xs.foldl (opC .add .f32) (some 0)
theorem fsum_take {xs : List (Option Nat)} {k : Nat} (h : k < xs.length) : fsum (xs.take (k + 1)) = opC .add .f32 (fsum (xs.take k)) (ix xs k) := by
  unfold fsum; rw [take_ix _ _ h, List.foldl_append]; rfl
theorem SumNumbers_c (lv : LV) (xs : List (Option Nat)) (H : Hp) (h : RdL H lv (xs.map (LV.flt .f32))) (hn : xs.length ≤ 256) : FunH Try.prog 74 [lv] H fun r H' => r = .tup [.flt .f32 (fsum xs), .bool true] ∧ H' = H := by
  (refine FunH_body tyOk Try.func74 rfl (by kernel_rfl) Try.ntmps74 (fun hcl hbd => ?_); simp only [List.length_cons, List.length_nil, Nat.reduceAdd, Nat.reduceSub, List.replicate, List.cons_append, List.nil_append])
  repeat' (first
    | ((with_reducible refine hK _ _ ?_); clear hK K)
    | (with_reducible refine AW_seq (fun K hK => ?_))
    | (with_reducible refine AW_region tyOk ?_)
    | ((with_reducible refine AOps_cons (fun K hK => ?_)); simp (disch := first | omega | assumption | rfl | (exact liveO_setS (by assumption)) | (simp only [go_sem]; first | done | omega)) only [go_sem, reduceIte, reduceCtorEq, Nat.reduceAdd, Nat.reduceMul, Nat.reduceSub, Nat.reduceLeDiff, Nat.lt_irrefl, Nat.reduceEqDiff, Nat.reduceBEq, Int.reduceLE, Int.reduceLT, Int.reduceToNat, w64, eq_self, h.lenm])
    | ((with_reducible refine AOps_nil ?_); try simp only [thenA, blockA, if_true, if_false, reduceIte])
    | (with_reducible refine AW_block ?_)
    | ((with_reducible refine AW_ret ?_); try simp only [thenA, blockA])
    | ((with_reducible refine AW_skip ?_); try simp only [thenA, blockA])
    | ((with_reducible refine AW_exit ?_); try simp only [thenA, blockA, if_true, if_false, reduceIte, Nat.reduceEqDiff, reduceCtorEq])
    | ((with_reducible show AW _ _ (.cond _ _ _) _ _ _); refine AW_cond rfl (fun hg => ?_) (fun hg => ?_) <;> first | (exfalso; simp only [reduceCtorEq] at hg; done) | ((try simp only [Bool.not_eq_true', Bool.not_eq_false', decide_eq_true_eq, decide_eq_false_iff_not] at hg); try (exfalso; omega)))
    | ((with_reducible show _ ∧ _); refine And.intro (fun hg => ?_) (fun hg => ?_) <;> (try simp only [Bool.not_eq_true', Bool.not_eq_false'] at hg) <;> simp only [hg] <;> (try simp only [decide_eq_true_eq, decide_eq_false_iff_not] at hg))
    | (clear hK K)
    | fail)
  refine AW_loopV [4, 6, 12, 13, 14, 15, 16, 17, 18, 19] (fun k : Nat => [(4, .flt .f32 (fsum (xs.take k))), (12, .int .i64 (k : Nat))]) (fun _ => H) (fun k => k ≤ xs.length) (fun k => xs.length - k) 0 (Nat.zero_le _) ?_ rfl ?_
  · simp only [junkAll, setAll, List.foldl_cons, List.foldl_nil, List.set_cons_succ, List.set_cons_zero, JL, true_or, or_true, and_true, true_and, reduceCtorEq, false_or, or_false, LV.int.injEq, LV.bool.injEq, LV.flt.injEq, LV.sl.injEq, LV.ptr.injEq, eq_self, Int.natCast_add, Int.natCast_one, Int.natCast_zero, Int.ofNat_zero]; rfl
  · intro k hk K hK
    simp only [junkAll, setAll, List.foldl_cons, List.foldl_nil, List.set_cons_succ, List.set_cons_zero]
    repeat' (first
      | ((with_reducible refine hK _ _ ?_); clear hK K)
      | (with_reducible refine AW_seq (fun K hK => ?_))
      | (with_reducible refine AW_region tyOk ?_)
      | ((with_reducible refine AOps_cons (fun K hK => ?_)); simp (disch := first | omega | assumption | rfl | (exact liveO_setS (by assumption)) | (simp only [go_sem]; first | done | omega)) only [go_sem, reduceIte, reduceCtorEq, Nat.reduceAdd, Nat.reduceMul, Nat.reduceSub, Nat.reduceLeDiff, Nat.lt_irrefl, Nat.reduceEqDiff, Nat.reduceBEq, Int.reduceLE, Int.reduceLT, Int.reduceToNat, w64, eq_self, h.lenm, h.idxm, h.ldm])
      | ((with_reducible refine AOps_nil ?_); try simp only [thenA, blockA, if_true, if_false, reduceIte])
      | (with_reducible refine AW_block ?_)
      | ((with_reducible refine AW_ret ?_); try simp only [thenA, blockA])
      | ((with_reducible refine AW_skip ?_); try simp only [thenA, blockA])
      | ((with_reducible refine AW_exit ?_); try simp only [thenA, blockA, if_true, if_false, reduceIte, Nat.reduceEqDiff, reduceCtorEq])
      | ((with_reducible show AW _ _ (.cond _ _ _) _ _ _); refine AW_cond rfl (fun hg => ?_) (fun hg => ?_) <;> first | (exfalso; simp only [reduceCtorEq] at hg; done) | ((try simp only [Bool.not_eq_true', Bool.not_eq_false', decide_eq_true_eq, decide_eq_false_iff_not] at hg); try (exfalso; omega)))
      | ((with_reducible show _ ∧ _); refine And.intro (fun hg => ?_) (fun hg => ?_) <;> (try simp only [Bool.not_eq_true', Bool.not_eq_false'] at hg) <;> simp only [hg] <;> (try simp only [decide_eq_true_eq, decide_eq_false_iff_not] at hg))
      | (clear hK K)
      | fail)
    · refine hK _ _ (k + 1) (by (try simp only); omega) (by (try simp only); omega) ?j4 ?h4
      case h4 => (rfl)
      case j4 => (simp only [junkAll, setAll, List.foldl_cons, List.foldl_nil, List.set_cons_succ, List.set_cons_zero, JL, true_or, or_true, and_true, true_and, reduceCtorEq, false_or, or_false, LV.int.injEq, LV.bool.injEq, LV.flt.injEq, LV.sl.injEq, LV.ptr.injEq, eq_self, Int.natCast_add, Int.natCast_one, Int.natCast_zero, Int.ofNat_zero]; rw [fsum_take (by omega)])
    · all_goals (first | refine EndA_cut hcl (by first | exact Or.inr rfl | exact Or.inl rfl) (by simp only [Try.results74, resA, aresL, go_sem, reduceIte, reduceCtorEq, Nat.reduceAdd, Nat.reduceMul, Nat.reduceSub, Nat.reduceLeDiff, Nat.lt_irrefl, Nat.reduceEqDiff, Nat.reduceBEq, Int.reduceLE, Int.reduceLT, Int.reduceToNat, w64, eq_self] <;> rfl) rfl ?_ | refine EndA_same (by first | exact Or.inr rfl | exact Or.inl rfl) (by simp only [Try.results74, resA, aresL, go_sem, reduceIte, reduceCtorEq, Nat.reduceAdd, Nat.reduceMul, Nat.reduceSub, Nat.reduceLeDiff, Nat.lt_irrefl, Nat.reduceEqDiff, Nat.reduceBEq, Int.reduceLE, Int.reduceLT, Int.reduceToNat, w64, eq_self] <;> rfl) ?_)
      have e : k = xs.length := by omega
      subst e
      exact ⟨by rw [List.take_length], rfl⟩
def lastF (xs : List (Option Nat)) (l : Int) (i : Nat) : List (Option Nat) := (xs.drop (fromW i l)).take (i + 1 - fromW i l)
theorem lastF_len (xs : List (Option Nat)) (l : Int) (i : Nat) (hi : i < xs.length) : (lastF xs l i).length = i + 1 - fromW i l := by simp [lastF]; omega
def meanF (xs : List (Option Nat)) (l : Int) (i : Nat) : Option Nat := opC .quo .f32 (fsum (lastF xs l i)) (some (FloatKind.f32.nearest (i + 1 - fromW i l : Nat)))
def meanL (xs : List (Option Nat)) (l : Int) (k : Nat) : List (Option Nat) := (List.range k).map (meanF xs l)
theorem meanL_len (xs : List (Option Nat)) (l : Int) (k : Nat) : (meanL xs l k).length = k := by simp [meanL]
theorem meanL_succ (xs : List (Option Nat)) (l : Int) (k : Nat) : meanL xs l (k + 1) = meanL xs l k ++ [meanF xs l k] := by simp [meanL, List.range_succ]
def mwOk (xs : List (Option Nat)) (l : Int) : Bool := streamFB xs && inB l 1 128
def mwB (xs : List (Option Nat)) (l : Int) : Bool := mwOk xs l && (meanL xs l xs.length).all finO
def mwR (xs : List (Option Nat)) (l : Int) : List (Option Nat) := if mwB xs l then meanL xs l xs.length else []
theorem mwR_len (xs : List (Option Nat)) (l : Int) : (mwR xs l).length ≤ xs.length := by unfold mwR; split <;> simp [meanL_len]
theorem fromW_le' (i : Nat) (l : Int) (h : 1 ≤ l) : fromW i l ≤ i := by unfold fromW; omega
set_option maxHeartbeats 2000000 in
theorem iMeansOfWindow_c (x : LV) (xs : List (Option Nat)) (l : Int) (H : Hp) (h : RdL H x (xs.map (LV.flt .f32))) (hn : xs.length ≤ 1048576) :
    FunH Try.prog 29 [x, .int .i64 l] H fun r H' => r = .tup [.sl H.length 0 0 (mwR xs l).length none, .bool (mwB xs l)] ∧ H' = H ++ [⟨0, false, 45, 1, (mwR xs l).map (LV.flt .f32)⟩] := by
  unfold mwR
  cases e : mwOk xs l
  · have e0 : mwB xs l = false := by unfold mwB; rw [e]; rfl
    (refine FunH_body tyOk Try.func29 rfl (by kernel_rfl) Try.ntmps29 (fun hcl hbd => ?_); simp only [List.length_cons, List.length_nil, Nat.reduceAdd, Nat.reduceSub, List.replicate, List.cons_append, List.nil_append])
    repeat' (first
      | ((with_reducible refine hK _ _ ?_); clear hK K)
      | (with_reducible refine AW_seq (fun K hK => ?_))
      | (with_reducible refine AW_region tyOk ?_)
      | ((with_reducible refine AOps_cons (fun K hK => ?_)); simp (disch := first | omega | assumption | rfl | (exact liveO_setS (by assumption)) | (simp only [go_sem]; first | done | omega)) only [go_sem, reduceIte, reduceCtorEq, Nat.reduceAdd, Nat.reduceMul, Nat.reduceSub, Nat.reduceLeDiff, Nat.lt_irrefl, Nat.reduceEqDiff, Nat.reduceBEq, Int.reduceLE, Int.reduceLT, Int.reduceToNat, w64, eq_self, h.lenm, e0])
      | ((with_reducible refine AOps_nil ?_); try simp only [thenA, blockA, if_true, if_false, reduceIte])
      | (with_reducible refine AW_block ?_)
      | ((with_reducible refine AW_ret ?_); try simp only [thenA, blockA])
      | ((with_reducible refine AW_skip ?_); try simp only [thenA, blockA])
      | ((with_reducible refine AW_exit ?_); try simp only [thenA, blockA, if_true, if_false, reduceIte, Nat.reduceEqDiff, reduceCtorEq])
      | ((with_reducible show AW _ _ (.cond _ _ _) _ _ _); refine AW_cond rfl (fun hg => ?_) (fun hg => ?_) <;> first | (exfalso; simp only [reduceCtorEq] at hg; done) | ((try simp only [Bool.not_eq_true', Bool.not_eq_false', decide_eq_true_eq, decide_eq_false_iff_not] at hg); try (exfalso; omega)))
      | ((with_reducible show _ ∧ _); refine And.intro (fun hg => ?_) (fun hg => ?_) <;> (try simp only [Bool.not_eq_true', Bool.not_eq_false'] at hg) <;> simp only [hg] <;> (try simp only [decide_eq_true_eq, decide_eq_false_iff_not] at hg))
      | ((with_reducible show FunH _ _ _ _ _); (first | (refine FunH.mono (isStream_c _ _) ?_) | (refine FunH.mono (areFinite_c _ _ _ (by first | assumption | omega | rfl | exact RdL.app (by assumption) _ | exact RdL_h0 rfl (by simp) | exact RdL_hj rfl (by simp) | exact (hp_get0 _ _).trans rfl | exact (hp_getj _ _ _).trans rfl | exact RdL_nil | exact RdL_emp | (simp; done) | (simp; omega)) (by first | assumption | omega | rfl | exact RdL.app (by assumption) _ | exact RdL_h0 rfl (by simp) | exact RdL_hj rfl (by simp) | exact (hp_get0 _ _).trans rfl | exact (hp_getj _ _ _).trans rfl | exact RdL_nil | exact RdL_emp | (simp; done) | (simp; omega))) ?_) | (refine FunH.mono (within_c _ _ _ _) ?_) | (refine FunH.mono (lastOnesF_c _ _ _ _ _ (by first | assumption | omega | rfl | exact RdL.app (by assumption) _ | exact RdL_h0 rfl (by simp) | exact RdL_hj rfl (by simp) | exact (hp_get0 _ _).trans rfl | exact (hp_getj _ _ _).trans rfl | exact RdL_nil | exact RdL_emp | (simp; done) | (simp; omega)) (by first | assumption | omega | rfl | exact RdL.app (by assumption) _ | exact RdL_h0 rfl (by simp) | exact RdL_hj rfl (by simp) | exact (hp_get0 _ _).trans rfl | exact (hp_getj _ _ _).trans rfl | exact RdL_nil | exact RdL_emp | (simp; done) | (simp; omega)) (by first | assumption | omega | rfl | exact RdL.app (by assumption) _ | exact RdL_h0 rfl (by simp) | exact RdL_hj rfl (by simp) | exact (hp_get0 _ _).trans rfl | exact (hp_getj _ _ _).trans rfl | exact RdL_nil | exact RdL_emp | (simp; done) | (simp; omega)) (by first | assumption | omega | rfl | exact RdL.app (by assumption) _ | exact RdL_h0 rfl (by simp) | exact RdL_hj rfl (by simp) | exact (hp_get0 _ _).trans rfl | exact (hp_getj _ _ _).trans rfl | exact RdL_nil | exact RdL_emp | (simp; done) | (simp; omega)) (by first | assumption | omega | rfl | exact RdL.app (by assumption) _ | exact RdL_h0 rfl (by simp) | exact RdL_hj rfl (by simp) | exact (hp_get0 _ _).trans rfl | exact (hp_getj _ _ _).trans rfl | exact RdL_nil | exact RdL_emp | (simp; done) | (simp; omega))) ?_) | (refine FunH.mono (SumNumbers_c _ _ _ (by first | assumption | omega | rfl | exact RdL.app (by assumption) _ | exact RdL_h0 rfl (by simp) | exact RdL_hj rfl (by simp) | exact (hp_get0 _ _).trans rfl | exact (hp_getj _ _ _).trans rfl | exact RdL_nil | exact RdL_emp | (simp; done) | (simp; omega)) (by first | assumption | omega | rfl | exact RdL.app (by assumption) _ | exact RdL_h0 rfl (by simp) | exact RdL_hj rfl (by simp) | exact (hp_get0 _ _).trans rfl | exact (hp_getj _ _ _).trans rfl | exact RdL_nil | exact RdL_emp | (simp; done) | (simp; omega))) ?_)); rintro r H1 ⟨hr1, hr2⟩; replace hr1 := hr1.symm; replace hr2 := hr2.symm; subst hr1; subst hr2; try simp (disch := first | omega | assumption | rfl | (exact liveO_setS (by assumption)) | (simp only [go_sem]; first | done | omega)) only [go_sem, reduceIte, reduceCtorEq, Nat.reduceAdd, Nat.reduceMul, Nat.reduceSub, Nat.reduceLeDiff, Nat.lt_irrefl, Nat.reduceEqDiff, Nat.reduceBEq, Int.reduceLE, Int.reduceLT, Int.reduceToNat, w64, eq_self, h.lenm, e0])
      | (clear hK K)
      | fail)
    all_goals try (exfalso; (try clear hK K); clear hcl hbd; grind [mwOk, streamFB])
    all_goals (try simp only [e0, Bool.false_eq_true, if_false])
    all_goals (
      first | (refine EndA_rows0 [none] hcl (by first | exact Or.inr rfl | exact Or.inl rfl) (by simp only [Try.results29, resA, aresL, go_sem, reduceIte, reduceCtorEq, Nat.reduceAdd, Nat.reduceMul, Nat.reduceSub, Nat.reduceLeDiff, Nat.lt_irrefl, Nat.reduceEqDiff, Nat.reduceBEq, Int.reduceLE, Int.reduceLT, Int.reduceToNat, w64, eq_self] <;> rfl) (by decide) ?_ ?_ ⟨rfl, rfl⟩) | (refine EndA_rows [none] hcl (by first | exact Or.inr rfl | exact Or.inl rfl) (by simp only [Try.results29, resA, aresL, go_sem, reduceIte, reduceCtorEq, Nat.reduceAdd, Nat.reduceMul, Nat.reduceSub, Nat.reduceLeDiff, Nat.lt_irrefl, Nat.reduceEqDiff, Nat.reduceBEq, Int.reduceLE, Int.reduceLT, Int.reduceToNat, w64, eq_self] <;> rfl) (by decide) ?_ ?_ ⟨rfl, rfl⟩)
      rotate_left
      · repeat' (first | exact trivial | apply TdT.tup | apply TdT.one | apply TdL.agg | apply TdL.cell | exact TdB.old _ trivial rfl | exact TdB.virt 0 rfl | exact TdB.junk _ | exact TdB.old _ (by assumption) (by assumption) | refine And.intro ?_ ?_)
      all_goals (repeat' (first | (with_reducible exact RowOk.none) | ((with_reducible apply RowOk.eq); (exact rfl); rotate_left; (first | (with_reducible exact scal_int _ _) | (with_reducible exact scal_flt _ _) | (with_reducible exact scal_bool _) | (simp [LV.isCell, bnd]; done))) | exact trivial | refine And.intro ?_ ?_))
      all_goals (try rfl))
  · have e1 : streamFB xs = true ∧ inB l 1 128 = true := by unfold mwOk at e; simpa using e
    have e7 : 1 ≤ xs.length ∧ xs.length ≤ 128 ∧ xs.all finO = true := by have := e1.1; unfold streamFB at this; simpa [and_assoc] using this
    have hl2 : 1 ≤ l ∧ l ≤ 128 := by simpa [inB] using e1.2
    (refine FunH_body tyOk Try.func29 rfl (by kernel_rfl) Try.ntmps29 (fun hcl hbd => ?_); simp only [List.length_cons, List.length_nil, Nat.reduceAdd, Nat.reduceSub, List.replicate, List.cons_append, List.nil_append])
    repeat' (first
      | ((with_reducible refine hK _ _ ?_); clear hK K)
      | (with_reducible refine AW_seq (fun K hK => ?_))
      | (with_reducible refine AW_region tyOk ?_)
      | ((with_reducible refine AOps_cons (fun K hK => ?_)); simp (disch := first | omega | assumption | rfl | (exact liveO_setS (by assumption)) | (simp only [go_sem]; first | done | omega)) only [go_sem, reduceIte, reduceCtorEq, Nat.reduceAdd, Nat.reduceMul, Nat.reduceSub, Nat.reduceLeDiff, Nat.lt_irrefl, Nat.reduceEqDiff, Nat.reduceBEq, Int.reduceLE, Int.reduceLT, Int.reduceToNat, w64, eq_self, h.lenm, e7.2.2, e1.2, decide_eq_true (show (1 : Int) ≤ xs.length by omega), decide_eq_true (show (xs.length : Int) ≤ 128 by omega)])
      | ((with_reducible refine AOps_nil ?_); try simp only [thenA, blockA, if_true, if_false, reduceIte])
      | (with_reducible refine AW_block ?_)
      | ((with_reducible refine AW_ret ?_); try simp only [thenA, blockA])
      | ((with_reducible refine AW_skip ?_); try simp only [thenA, blockA])
      | ((with_reducible refine AW_exit ?_); try simp only [thenA, blockA, if_true, if_false, reduceIte, Nat.reduceEqDiff, reduceCtorEq])
      | ((with_reducible show AW _ _ (.cond _ _ _) _ _ _); refine AW_cond rfl (fun hg => ?_) (fun hg => ?_) <;> first | (exfalso; simp only [reduceCtorEq] at hg; done) | ((try simp only [Bool.not_eq_true', Bool.not_eq_false', decide_eq_true_eq, decide_eq_false_iff_not] at hg); try (exfalso; omega)))
      | ((with_reducible show _ ∧ _); refine And.intro (fun hg => ?_) (fun hg => ?_) <;> (try simp only [Bool.not_eq_true', Bool.not_eq_false'] at hg) <;> simp only [hg] <;> (try simp only [decide_eq_true_eq, decide_eq_false_iff_not] at hg))
      | ((with_reducible show FunH _ _ _ _ _); (first | (refine FunH.mono (isStream_c _ _) ?_) | (refine FunH.mono (areFinite_c _ _ _ (by first | assumption | omega | rfl | exact RdL.app (by assumption) _ | exact RdL_h0 rfl (by simp) | exact RdL_hj rfl (by simp) | exact (hp_get0 _ _).trans rfl | exact (hp_getj _ _ _).trans rfl | exact RdL_nil | exact RdL_emp | (simp; done) | (simp; omega)) (by first | assumption | omega | rfl | exact RdL.app (by assumption) _ | exact RdL_h0 rfl (by simp) | exact RdL_hj rfl (by simp) | exact (hp_get0 _ _).trans rfl | exact (hp_getj _ _ _).trans rfl | exact RdL_nil | exact RdL_emp | (simp; done) | (simp; omega))) ?_) | (refine FunH.mono (within_c _ _ _ _) ?_) | (refine FunH.mono (lastOnesF_c _ _ _ _ _ (by first | assumption | omega | rfl | exact RdL.app (by assumption) _ | exact RdL_h0 rfl (by simp) | exact RdL_hj rfl (by simp) | exact (hp_get0 _ _).trans rfl | exact (hp_getj _ _ _).trans rfl | exact RdL_nil | exact RdL_emp | (simp; done) | (simp; omega)) (by first | assumption | omega | rfl | exact RdL.app (by assumption) _ | exact RdL_h0 rfl (by simp) | exact RdL_hj rfl (by simp) | exact (hp_get0 _ _).trans rfl | exact (hp_getj _ _ _).trans rfl | exact RdL_nil | exact RdL_emp | (simp; done) | (simp; omega)) (by first | assumption | omega | rfl | exact RdL.app (by assumption) _ | exact RdL_h0 rfl (by simp) | exact RdL_hj rfl (by simp) | exact (hp_get0 _ _).trans rfl | exact (hp_getj _ _ _).trans rfl | exact RdL_nil | exact RdL_emp | (simp; done) | (simp; omega)) (by first | assumption | omega | rfl | exact RdL.app (by assumption) _ | exact RdL_h0 rfl (by simp) | exact RdL_hj rfl (by simp) | exact (hp_get0 _ _).trans rfl | exact (hp_getj _ _ _).trans rfl | exact RdL_nil | exact RdL_emp | (simp; done) | (simp; omega)) (by first | assumption | omega | rfl | exact RdL.app (by assumption) _ | exact RdL_h0 rfl (by simp) | exact RdL_hj rfl (by simp) | exact (hp_get0 _ _).trans rfl | exact (hp_getj _ _ _).trans rfl | exact RdL_nil | exact RdL_emp | (simp; done) | (simp; omega))) ?_) | (refine FunH.mono (SumNumbers_c _ _ _ (by first | assumption | omega | rfl | exact RdL.app (by assumption) _ | exact RdL_h0 rfl (by simp) | exact RdL_hj rfl (by simp) | exact (hp_get0 _ _).trans rfl | exact (hp_getj _ _ _).trans rfl | exact RdL_nil | exact RdL_emp | (simp; done) | (simp; omega)) (by first | assumption | omega | rfl | exact RdL.app (by assumption) _ | exact RdL_h0 rfl (by simp) | exact RdL_hj rfl (by simp) | exact (hp_get0 _ _).trans rfl | exact (hp_getj _ _ _).trans rfl | exact RdL_nil | exact RdL_emp | (simp; done) | (simp; omega))) ?_)); rintro r H1 ⟨hr1, hr2⟩; replace hr1 := hr1.symm; replace hr2 := hr2.symm; subst hr1; subst hr2; try simp (disch := first | omega | assumption | rfl | (exact liveO_setS (by assumption)) | (simp only [go_sem]; first | done | omega)) only [go_sem, reduceIte, reduceCtorEq, Nat.reduceAdd, Nat.reduceMul, Nat.reduceSub, Nat.reduceLeDiff, Nat.lt_irrefl, Nat.reduceEqDiff, Nat.reduceBEq, Int.reduceLE, Int.reduceLT, Int.reduceToNat, w64, eq_self, h.lenm, e7.2.2, e1.2, decide_eq_true (show (1 : Int) ≤ xs.length by omega), decide_eq_true (show (xs.length : Int) ≤ 128 by omega)])
      | (clear hK K)
      | fail)
    refine AW_loopV [6, 7, 8, 9, 10, 28, 29, 30, 31, 32, 33, 34, 35, 36, 37, 38, 39, 40, 41, 42, 43, 44, 45, 46, 47, 48] (fun p : Nat × Nat × Hp => [(6, .sl H.length p.2.1 0 p.1 none), (28, .int .i64 (p.1 : Nat))]) (fun p => H ++ ⟨p.2.1, false, 45, 1, (meanL xs l p.1).map (LV.flt .f32)⟩ :: p.2.2) (fun p => p.1 ≤ xs.length) (fun p => xs.length - p.1) (0, 0, []) (Nat.zero_le _) ?_ rfl ?_
    · simp only [junkAll, setAll, List.foldl_cons, List.foldl_nil, List.set_cons_succ, List.set_cons_zero, JL, true_or, or_true, and_true, true_and, reduceCtorEq, false_or, or_false, LV.int.injEq, LV.bool.injEq, LV.flt.injEq, LV.sl.injEq, LV.ptr.injEq, eq_self, Int.natCast_add, Int.natCast_one, Int.natCast_zero, Int.ofNat_zero]
    · intro ⟨k, ver, G⟩ hk K hK
      simp only at hk
      have hll := meanL_len xs l k
      have hfl := fromW_le' k l hl2.1
      simp only [junkAll, setAll, List.foldl_cons, List.foldl_nil, List.set_cons_succ, List.set_cons_zero]
      by_cases hkk : k < xs.length
      · have hlf := lastF_len xs l k hkk
        have hs := (h.app (⟨ver, false, 45, 1, (meanL xs l k).map (LV.flt .f32)⟩ :: G)).subm (l := fromW k l) (m := k + 1 - fromW k l) (by omega) (by omega)
        change RdL _ _ ((lastF xs l k).map (LV.flt .f32)) at hs
        repeat' (first
          | ((with_reducible refine hK _ _ ?_); clear hK K)
          | (with_reducible refine AW_seq (fun K hK => ?_))
          | (with_reducible refine AW_region tyOk ?_)
          | ((with_reducible refine AOps_cons (fun K hK => ?_)); simp (disch := first | omega | assumption | rfl | (exact liveO_setS (by assumption)) | (simp only [go_sem]; first | done | omega)) only [go_sem, reduceIte, reduceCtorEq, Nat.reduceAdd, Nat.reduceMul, Nat.reduceSub, Nat.reduceLeDiff, Nat.lt_irrefl, Nat.reduceEqDiff, Nat.reduceBEq, Int.reduceLE, Int.reduceLT, Int.reduceToNat, w64, eq_self, h.lenm, h.idxmA, h.ldmA, hs.lenm, hlf])
          | ((with_reducible refine AOps_nil ?_); try simp only [thenA, blockA, if_true, if_false, reduceIte])
          | (with_reducible refine AW_block ?_)
          | ((with_reducible refine AW_ret ?_); try simp only [thenA, blockA])
          | ((with_reducible refine AW_skip ?_); try simp only [thenA, blockA])
          | ((with_reducible refine AW_exit ?_); try simp only [thenA, blockA, if_true, if_false, reduceIte, Nat.reduceEqDiff, reduceCtorEq])
          | ((with_reducible show AW _ _ (.cond _ _ _) _ _ _); refine AW_cond rfl (fun hg => ?_) (fun hg => ?_) <;> first | (exfalso; simp only [reduceCtorEq] at hg; done) | ((try simp only [Bool.not_eq_true', Bool.not_eq_false', decide_eq_true_eq, decide_eq_false_iff_not] at hg); try (exfalso; omega)))
          | ((with_reducible show _ ∧ _); refine And.intro (fun hg => ?_) (fun hg => ?_) <;> (try simp only [Bool.not_eq_true', Bool.not_eq_false'] at hg) <;> simp only [hg] <;> (try simp only [decide_eq_true_eq, decide_eq_false_iff_not] at hg))
          | ((with_reducible show FunH _ _ _ _ _); (first | (refine FunH.mono (SumNumbers_c _ _ _ hs (by omega)) ?_) | (refine FunH.mono (isStream_c _ _) ?_) | (refine FunH.mono (areFinite_c _ _ _ (by first | assumption | omega | rfl | exact RdL.app (by assumption) _ | exact RdL_h0 rfl (by simp) | exact RdL_hj rfl (by simp) | exact (hp_get0 _ _).trans rfl | exact (hp_getj _ _ _).trans rfl | exact RdL_nil | exact RdL_emp | (simp; done) | (simp; omega)) (by first | assumption | omega | rfl | exact RdL.app (by assumption) _ | exact RdL_h0 rfl (by simp) | exact RdL_hj rfl (by simp) | exact (hp_get0 _ _).trans rfl | exact (hp_getj _ _ _).trans rfl | exact RdL_nil | exact RdL_emp | (simp; done) | (simp; omega))) ?_) | (refine FunH.mono (within_c _ _ _ _) ?_) | (refine FunH.mono (lastOnesF_c _ _ _ _ _ (by first | assumption | omega | rfl | exact RdL.app (by assumption) _ | exact RdL_h0 rfl (by simp) | exact RdL_hj rfl (by simp) | exact (hp_get0 _ _).trans rfl | exact (hp_getj _ _ _).trans rfl | exact RdL_nil | exact RdL_emp | (simp; done) | (simp; omega)) (by first | assumption | omega | rfl | exact RdL.app (by assumption) _ | exact RdL_h0 rfl (by simp) | exact RdL_hj rfl (by simp) | exact (hp_get0 _ _).trans rfl | exact (hp_getj _ _ _).trans rfl | exact RdL_nil | exact RdL_emp | (simp; done) | (simp; omega)) (by first | assumption | omega | rfl | exact RdL.app (by assumption) _ | exact RdL_h0 rfl (by simp) | exact RdL_hj rfl (by simp) | exact (hp_get0 _ _).trans rfl | exact (hp_getj _ _ _).trans rfl | exact RdL_nil | exact RdL_emp | (simp; done) | (simp; omega)) (by first | assumption | omega | rfl | exact RdL.app (by assumption) _ | exact RdL_h0 rfl (by simp) | exact RdL_hj rfl (by simp) | exact (hp_get0 _ _).trans rfl | exact (hp_getj _ _ _).trans rfl | exact RdL_nil | exact RdL_emp | (simp; done) | (simp; omega)) (by first | assumption | omega | rfl | exact RdL.app (by assumption) _ | exact RdL_h0 rfl (by simp) | exact RdL_hj rfl (by simp) | exact (hp_get0 _ _).trans rfl | exact (hp_getj _ _ _).trans rfl | exact RdL_nil | exact RdL_emp | (simp; done) | (simp; omega))) ?_) | (refine FunH.mono (SumNumbers_c _ _ _ (by first | assumption | omega | rfl | exact RdL.app (by assumption) _ | exact RdL_h0 rfl (by simp) | exact RdL_hj rfl (by simp) | exact (hp_get0 _ _).trans rfl | exact (hp_getj _ _ _).trans rfl | exact RdL_nil | exact RdL_emp | (simp; done) | (simp; omega)) (by first | assumption | omega | rfl | exact RdL.app (by assumption) _ | exact RdL_h0 rfl (by simp) | exact RdL_hj rfl (by simp) | exact (hp_get0 _ _).trans rfl | exact (hp_getj _ _ _).trans rfl | exact RdL_nil | exact RdL_emp | (simp; done) | (simp; omega))) ?_)); rintro r H1 ⟨hr1, hr2⟩; replace hr1 := hr1.symm; replace hr2 := hr2.symm; subst hr1; subst hr2; try simp (disch := first | omega | assumption | rfl | (exact liveO_setS (by assumption)) | (simp only [go_sem]; first | done | omega)) only [go_sem, reduceIte, reduceCtorEq, Nat.reduceAdd, Nat.reduceMul, Nat.reduceSub, Nat.reduceLeDiff, Nat.lt_irrefl, Nat.reduceEqDiff, Nat.reduceBEq, Int.reduceLE, Int.reduceLT, Int.reduceToNat, w64, eq_self, h.lenm, h.idxmA, h.ldmA, hs.lenm, hlf])
          | (clear hK K)
          | fail)
        refine hK _ _ (k + 1, ver + 1, ?G5) (by (try simp only); omega) (by (try simp only); omega) ?j5 ?h5
        case h5 => (rw [meanL_succ, List.map_append]; rfl)
        case j5 => (simp only [junkAll, setAll, List.foldl_cons, List.foldl_nil, List.set_cons_succ, List.set_cons_zero, JL, true_or, or_true, and_true, true_and, reduceCtorEq, false_or, or_false, LV.int.injEq, LV.bool.injEq, LV.flt.injEq, LV.sl.injEq, LV.ptr.injEq, eq_self, Int.natCast_add, Int.natCast_one, Int.natCast_zero, Int.ofNat_zero])
      · have ek : k = xs.length := by omega
        subst ek
        cases e2 : (meanL xs l xs.length).all finO
        · have e3 : mwB xs l = false := by unfold mwB; rw [e2]; simp
          repeat' (first
            | ((with_reducible refine hK _ _ ?_); clear hK K)
            | (with_reducible refine AW_seq (fun K hK => ?_))
            | (with_reducible refine AW_region tyOk ?_)
            | ((with_reducible refine AOps_cons (fun K hK => ?_)); simp (disch := first | omega | assumption | rfl | (exact liveO_setS (by assumption)) | (simp only [go_sem]; first | done | omega)) only [go_sem, reduceIte, reduceCtorEq, Nat.reduceAdd, Nat.reduceMul, Nat.reduceSub, Nat.reduceLeDiff, Nat.lt_irrefl, Nat.reduceEqDiff, Nat.reduceBEq, Int.reduceLE, Int.reduceLT, Int.reduceToNat, w64, eq_self, h.lenm, h.idxmA, h.ldmA, e2])
            | ((with_reducible refine AOps_nil ?_); try simp only [thenA, blockA, if_true, if_false, reduceIte])
            | (with_reducible refine AW_block ?_)
            | ((with_reducible refine AW_ret ?_); try simp only [thenA, blockA])
            | ((with_reducible refine AW_skip ?_); try simp only [thenA, blockA])
            | ((with_reducible refine AW_exit ?_); try simp only [thenA, blockA, if_true, if_false, reduceIte, Nat.reduceEqDiff, reduceCtorEq])
            | ((with_reducible show AW _ _ (.cond _ _ _) _ _ _); refine AW_cond rfl (fun hg => ?_) (fun hg => ?_) <;> first | (exfalso; simp only [reduceCtorEq] at hg; done) | ((try simp only [Bool.not_eq_true', Bool.not_eq_false', decide_eq_true_eq, decide_eq_false_iff_not] at hg); try (exfalso; omega)))
            | ((with_reducible show _ ∧ _); refine And.intro (fun hg => ?_) (fun hg => ?_) <;> (try simp only [Bool.not_eq_true', Bool.not_eq_false'] at hg) <;> simp only [hg] <;> (try simp only [decide_eq_true_eq, decide_eq_false_iff_not] at hg))
            | ((with_reducible show FunH _ _ _ _ _); (first | (refine FunH.mono (areFinite_c _ _ _ (RdL_h0 rfl (by simp [meanL_len])) (by rw [meanL_len]; omega)) ?_) | (refine FunH.mono (isStream_c _ _) ?_) | (refine FunH.mono (areFinite_c _ _ _ (by first | assumption | omega | rfl | exact RdL.app (by assumption) _ | exact RdL_h0 rfl (by simp) | exact RdL_hj rfl (by simp) | exact (hp_get0 _ _).trans rfl | exact (hp_getj _ _ _).trans rfl | exact RdL_nil | exact RdL_emp | (simp; done) | (simp; omega)) (by first | assumption | omega | rfl | exact RdL.app (by assumption) _ | exact RdL_h0 rfl (by simp) | exact RdL_hj rfl (by simp) | exact (hp_get0 _ _).trans rfl | exact (hp_getj _ _ _).trans rfl | exact RdL_nil | exact RdL_emp | (simp; done) | (simp; omega))) ?_) | (refine FunH.mono (within_c _ _ _ _) ?_) | (refine FunH.mono (lastOnesF_c _ _ _ _ _ (by first | assumption | omega | rfl | exact RdL.app (by assumption) _ | exact RdL_h0 rfl (by simp) | exact RdL_hj rfl (by simp) | exact (hp_get0 _ _).trans rfl | exact (hp_getj _ _ _).trans rfl | exact RdL_nil | exact RdL_emp | (simp; done) | (simp; omega)) (by first | assumption | omega | rfl | exact RdL.app (by assumption) _ | exact RdL_h0 rfl (by simp) | exact RdL_hj rfl (by simp) | exact (hp_get0 _ _).trans rfl | exact (hp_getj _ _ _).trans rfl | exact RdL_nil | exact RdL_emp | (simp; done) | (simp; omega)) (by first | assumption | omega | rfl | exact RdL.app (by assumption) _ | exact RdL_h0 rfl (by simp) | exact RdL_hj rfl (by simp) | exact (hp_get0 _ _).trans rfl | exact (hp_getj _ _ _).trans rfl | exact RdL_nil | exact RdL_emp | (simp; done) | (simp; omega)) (by first | assumption | omega | rfl | exact RdL.app (by assumption) _ | exact RdL_h0 rfl (by simp) | exact RdL_hj rfl (by simp) | exact (hp_get0 _ _).trans rfl | exact (hp_getj _ _ _).trans rfl | exact RdL_nil | exact RdL_emp | (simp; done) | (simp; omega)) (by first | assumption | omega | rfl | exact RdL.app (by assumption) _ | exact RdL_h0 rfl (by simp) | exact RdL_hj rfl (by simp) | exact (hp_get0 _ _).trans rfl | exact (hp_getj _ _ _).trans rfl | exact RdL_nil | exact RdL_emp | (simp; done) | (simp; omega))) ?_) | (refine FunH.mono (SumNumbers_c _ _ _ (by first | assumption | omega | rfl | exact RdL.app (by assumption) _ | exact RdL_h0 rfl (by simp) | exact RdL_hj rfl (by simp) | exact (hp_get0 _ _).trans rfl | exact (hp_getj _ _ _).trans rfl | exact RdL_nil | exact RdL_emp | (simp; done) | (simp; omega)) (by first | assumption | omega | rfl | exact RdL.app (by assumption) _ | exact RdL_h0 rfl (by simp) | exact RdL_hj rfl (by simp) | exact (hp_get0 _ _).trans rfl | exact (hp_getj _ _ _).trans rfl | exact RdL_nil | exact RdL_emp | (simp; done) | (simp; omega))) ?_)); rintro r H1 ⟨hr1, hr2⟩; replace hr1 := hr1.symm; replace hr2 := hr2.symm; subst hr1; subst hr2; try simp (disch := first | omega | assumption | rfl | (exact liveO_setS (by assumption)) | (simp only [go_sem]; first | done | omega)) only [go_sem, reduceIte, reduceCtorEq, Nat.reduceAdd, Nat.reduceMul, Nat.reduceSub, Nat.reduceLeDiff, Nat.lt_irrefl, Nat.reduceEqDiff, Nat.reduceBEq, Int.reduceLE, Int.reduceLT, Int.reduceToNat, w64, eq_self, h.lenm, h.idxmA, h.ldmA, e2])
            | (clear hK K)
            | fail)
          simp only [e3, Bool.false_eq_true, if_false]
          first | (refine EndA_rows0 [none] hcl (by first | exact Or.inr rfl | exact Or.inl rfl) (by simp only [Try.results29, resA, aresL, go_sem, reduceIte, reduceCtorEq, Nat.reduceAdd, Nat.reduceMul, Nat.reduceSub, Nat.reduceLeDiff, Nat.lt_irrefl, Nat.reduceEqDiff, Nat.reduceBEq, Int.reduceLE, Int.reduceLT, Int.reduceToNat, w64, eq_self] <;> rfl) (by decide) ?_ ?_ ⟨rfl, rfl⟩) | (refine EndA_rows [none] hcl (by first | exact Or.inr rfl | exact Or.inl rfl) (by simp only [Try.results29, resA, aresL, go_sem, reduceIte, reduceCtorEq, Nat.reduceAdd, Nat.reduceMul, Nat.reduceSub, Nat.reduceLeDiff, Nat.lt_irrefl, Nat.reduceEqDiff, Nat.reduceBEq, Int.reduceLE, Int.reduceLT, Int.reduceToNat, w64, eq_self] <;> rfl) (by decide) ?_ ?_ ⟨rfl, rfl⟩)
          rotate_left
          · repeat' (first | exact trivial | apply TdT.tup | apply TdT.one | apply TdL.agg | apply TdL.cell | exact TdB.old _ trivial rfl | exact TdB.virt 0 rfl | exact TdB.junk _ | exact TdB.old _ (by assumption) (by assumption) | refine And.intro ?_ ?_)
          all_goals (repeat' (first | (with_reducible exact RowOk.none) | ((with_reducible apply RowOk.eq); (exact rfl); rotate_left; (first | (with_reducible exact scal_int _ _) | (with_reducible exact scal_flt _ _) | (with_reducible exact scal_bool _) | (simp [LV.isCell, bnd]; done))) | exact trivial | refine And.intro ?_ ?_))
          all_goals (try rfl)
        · have e3 : mwB xs l = true := by unfold mwB; rw [e2, e]; rfl
          repeat' (first
            | ((with_reducible refine hK _ _ ?_); clear hK K)
            | (with_reducible refine AW_seq (fun K hK => ?_))
            | (with_reducible refine AW_region tyOk ?_)
            | ((with_reducible refine AOps_cons (fun K hK => ?_)); simp (disch := first | omega | assumption | rfl | (exact liveO_setS (by assumption)) | (simp only [go_sem]; first | done | omega)) only [go_sem, reduceIte, reduceCtorEq, Nat.reduceAdd, Nat.reduceMul, Nat.reduceSub, Nat.reduceLeDiff, Nat.lt_irrefl, Nat.reduceEqDiff, Nat.reduceBEq, Int.reduceLE, Int.reduceLT, Int.reduceToNat, w64, eq_self, h.lenm, h.idxmA, h.ldmA, e2])
            | ((with_reducible refine AOps_nil ?_); try simp only [thenA, blockA, if_true, if_false, reduceIte])
            | (with_reducible refine AW_block ?_)
            | ((with_reducible refine AW_ret ?_); try simp only [thenA, blockA])
            | ((with_reducible refine AW_skip ?_); try simp only [thenA, blockA])
            | ((with_reducible refine AW_exit ?_); try simp only [thenA, blockA, if_true, if_false, reduceIte, Nat.reduceEqDiff, reduceCtorEq])
            | ((with_reducible show AW _ _ (.cond _ _ _) _ _ _); refine AW_cond rfl (fun hg => ?_) (fun hg => ?_) <;> first | (exfalso; simp only [reduceCtorEq] at hg; done) | ((try simp only [Bool.not_eq_true', Bool.not_eq_false', decide_eq_true_eq, decide_eq_false_iff_not] at hg); try (exfalso; omega)))
            | ((with_reducible show _ ∧ _); refine And.intro (fun hg => ?_) (fun hg => ?_) <;> (try simp only [Bool.not_eq_true', Bool.not_eq_false'] at hg) <;> simp only [hg] <;> (try simp only [decide_eq_true_eq, decide_eq_false_iff_not] at hg))
            | ((with_reducible show FunH _ _ _ _ _); (first | (refine FunH.mono (areFinite_c _ _ _ (RdL_h0 rfl (by simp [meanL_len])) (by rw [meanL_len]; omega)) ?_) | (refine FunH.mono (isStream_c _ _) ?_) | (refine FunH.mono (areFinite_c _ _ _ (by first | assumption | omega | rfl | exact RdL.app (by assumption) _ | exact RdL_h0 rfl (by simp) | exact RdL_hj rfl (by simp) | exact (hp_get0 _ _).trans rfl | exact (hp_getj _ _ _).trans rfl | exact RdL_nil | exact RdL_emp | (simp; done) | (simp; omega)) (by first | assumption | omega | rfl | exact RdL.app (by assumption) _ | exact RdL_h0 rfl (by simp) | exact RdL_hj rfl (by simp) | exact (hp_get0 _ _).trans rfl | exact (hp_getj _ _ _).trans rfl | exact RdL_nil | exact RdL_emp | (simp; done) | (simp; omega))) ?_) | (refine FunH.mono (within_c _ _ _ _) ?_) | (refine FunH.mono (lastOnesF_c _ _ _ _ _ (by first | assumption | omega | rfl | exact RdL.app (by assumption) _ | exact RdL_h0 rfl (by simp) | exact RdL_hj rfl (by simp) | exact (hp_get0 _ _).trans rfl | exact (hp_getj _ _ _).trans rfl | exact RdL_nil | exact RdL_emp | (simp; done) | (simp; omega)) (by first | assumption | omega | rfl | exact RdL.app (by assumption) _ | exact RdL_h0 rfl (by simp) | exact RdL_hj rfl (by simp) | exact (hp_get0 _ _).trans rfl | exact (hp_getj _ _ _).trans rfl | exact RdL_nil | exact RdL_emp | (simp; done) | (simp; omega)) (by first | assumption | omega | rfl | exact RdL.app (by assumption) _ | exact RdL_h0 rfl (by simp) | exact RdL_hj rfl (by simp) | exact (hp_get0 _ _).trans rfl | exact (hp_getj _ _ _).trans rfl | exact RdL_nil | exact RdL_emp | (simp; done) | (simp; omega)) (by first | assumption | omega | rfl | exact RdL.app (by assumption) _ | exact RdL_h0 rfl (by simp) | exact RdL_hj rfl (by simp) | exact (hp_get0 _ _).trans rfl | exact (hp_getj _ _ _).trans rfl | exact RdL_nil | exact RdL_emp | (simp; done) | (simp; omega)) (by first | assumption | omega | rfl | exact RdL.app (by assumption) _ | exact RdL_h0 rfl (by simp) | exact RdL_hj rfl (by simp) | exact (hp_get0 _ _).trans rfl | exact (hp_getj _ _ _).trans rfl | exact RdL_nil | exact RdL_emp | (simp; done) | (simp; omega))) ?_) | (refine FunH.mono (SumNumbers_c _ _ _ (by first | assumption | omega | rfl | exact RdL.app (by assumption) _ | exact RdL_h0 rfl (by simp) | exact RdL_hj rfl (by simp) | exact (hp_get0 _ _).trans rfl | exact (hp_getj _ _ _).trans rfl | exact RdL_nil | exact RdL_emp | (simp; done) | (simp; omega)) (by first | assumption | omega | rfl | exact RdL.app (by assumption) _ | exact RdL_h0 rfl (by simp) | exact RdL_hj rfl (by simp) | exact (hp_get0 _ _).trans rfl | exact (hp_getj _ _ _).trans rfl | exact RdL_nil | exact RdL_emp | (simp; done) | (simp; omega))) ?_)); rintro r H1 ⟨hr1, hr2⟩; replace hr1 := hr1.symm; replace hr2 := hr2.symm; subst hr1; subst hr2; try simp (disch := first | omega | assumption | rfl | (exact liveO_setS (by assumption)) | (simp only [go_sem]; first | done | omega)) only [go_sem, reduceIte, reduceCtorEq, Nat.reduceAdd, Nat.reduceMul, Nat.reduceSub, Nat.reduceLeDiff, Nat.lt_irrefl, Nat.reduceEqDiff, Nat.reduceBEq, Int.reduceLE, Int.reduceLT, Int.reduceToNat, w64, eq_self, h.lenm, h.idxmA, h.ldmA, e2])
            | (clear hK K)
            | fail)
          simp only [e3, if_true, meanL_len]
          refine EndA_rows [some 0] hcl (by first | exact Or.inr rfl | exact Or.inl rfl) (by simp only [Try.results29, resA, aresL, go_sem, reduceIte, reduceCtorEq, Nat.reduceAdd, Nat.reduceMul, Nat.reduceSub, Nat.reduceLeDiff, Nat.lt_irrefl, Nat.reduceEqDiff, Nat.reduceBEq, Int.reduceLE, Int.reduceLT, Int.reduceToNat, w64, eq_self] <;> rfl) (by decide) ?_ ?_ ⟨rfl, rfl⟩
          rotate_left
          · repeat' (first | exact trivial | apply TdT.tup | apply TdT.one | apply TdL.agg | apply TdL.cell | exact TdB.old _ trivial rfl | exact TdB.own 0 0 _ _ _ _ rfl _ rfl rfl | exact TdB.junk _ | exact TdB.old _ (by assumption) (by assumption) | refine And.intro ?_ ?_)
          all_goals (repeat' (first | (with_reducible exact RowOk.none) | ((with_reducible apply RowOk.eq); (exact rfl); rotate_left; (first | (with_reducible exact scal_int _ _) | (with_reducible exact scal_flt _ _) | (with_reducible exact scal_bool _) | (simp [LV.isCell, bnd]; done))) | exact trivial | refine And.intro ?_ ?_))
          all_goals (try rfl)
set_option maxHeartbeats 2000000 in
theorem sMeansOfWindow_c (x : LV) (xs : List (Option Nat)) (l : Int) (H : Hp) (h : RdL H x (xs.map (LV.flt .f32))) (hn : xs.length ≤ 1048576) :
    FunH Try.prog 28 [x, .int .i64 l] H fun r H' => r = .tup [.sl H.length 0 0 (mwR xs l).length none, .bool (mwB xs l)] ∧ H' = H ++ [⟨0, false, 45, 1, (mwR xs l).map (LV.flt .f32)⟩] := by
  unfold mwR
  cases e : mwOk xs l
  · have e0 : mwB xs l = false := by unfold mwB; rw [e]; rfl
    (refine FunH_body tyOk Try.func28 rfl (by kernel_rfl) Try.ntmps28 (fun hcl hbd => ?_); simp only [List.length_cons, List.length_nil, Nat.reduceAdd, Nat.reduceSub, List.replicate, List.cons_append, List.nil_append])
    repeat' (first
      | ((with_reducible refine hK _ _ ?_); clear hK K)
      | (with_reducible refine AW_seq (fun K hK => ?_))
      | (with_reducible refine AW_region tyOk ?_)
      | ((with_reducible refine AOps_cons (fun K hK => ?_)); simp (disch := first | omega | assumption | rfl | (exact liveO_setS (by assumption)) | (simp only [go_sem]; first | done | omega)) only [go_sem, reduceIte, reduceCtorEq, Nat.reduceAdd, Nat.reduceMul, Nat.reduceSub, Nat.reduceLeDiff, Nat.lt_irrefl, Nat.reduceEqDiff, Nat.reduceBEq, Int.reduceLE, Int.reduceLT, Int.reduceToNat, w64, eq_self, h.lenm, e0])
      | ((with_reducible refine AOps_nil ?_); try simp only [thenA, blockA, if_true, if_false, reduceIte])
      | (with_reducible refine AW_block ?_)
      | ((with_reducible refine AW_ret ?_); try simp only [thenA, blockA])
      | ((with_reducible refine AW_skip ?_); try simp only [thenA, blockA])
      | ((with_reducible refine AW_exit ?_); try simp only [thenA, blockA, if_true, if_false, reduceIte, Nat.reduceEqDiff, reduceCtorEq])
      | ((with_reducible show AW _ _ (.cond _ _ _) _ _ _); refine AW_cond rfl (fun hg => ?_) (fun hg => ?_) <;> first | (exfalso; simp only [reduceCtorEq] at hg; done) | ((try simp only [Bool.not_eq_true', Bool.not_eq_false', decide_eq_true_eq, decide_eq_false_iff_not] at hg); try (exfalso; omega)))
      | ((with_reducible show _ ∧ _); refine And.intro (fun hg => ?_) (fun hg => ?_) <;> (try simp only [Bool.not_eq_true', Bool.not_eq_false'] at hg) <;> simp only [hg] <;> (try simp only [decide_eq_true_eq, decide_eq_false_iff_not] at hg))
      | ((with_reducible show FunH _ _ _ _ _); (first | (refine FunH.mono (l00In_c _ _ _ _) ?_) | (refine FunH.mono (l06Floats_c _ _ _ (by first | assumption | omega | rfl | exact RdL.app (by assumption) _ | exact RdL_h0 rfl (by simp) | exact RdL_hj rfl (by simp) | exact (hp_get0 _ _).trans rfl | exact (hp_getj _ _ _).trans rfl | exact RdL_nil | exact RdL_emp | (simp; done) | (simp; omega)) (by first | assumption | omega | rfl | exact RdL.app (by assumption) _ | exact RdL_h0 rfl (by simp) | exact RdL_hj rfl (by simp) | exact (hp_get0 _ _).trans rfl | exact (hp_getj _ _ _).trans rfl | exact RdL_nil | exact RdL_emp | (simp; done) | (simp; omega))) ?_) | (refine FunH.mono (l00Max_c _ _ _) ?_) | (refine FunH.mono (l01Finite_c _ _) ?_)); rintro r H1 ⟨hr1, hr2⟩; replace hr1 := hr1.symm; replace hr2 := hr2.symm; subst hr1; subst hr2; try simp (disch := first | omega | assumption | rfl | (exact liveO_setS (by assumption)) | (simp only [go_sem]; first | done | omega)) only [go_sem, reduceIte, reduceCtorEq, Nat.reduceAdd, Nat.reduceMul, Nat.reduceSub, Nat.reduceLeDiff, Nat.lt_irrefl, Nat.reduceEqDiff, Nat.reduceBEq, Int.reduceLE, Int.reduceLT, Int.reduceToNat, w64, eq_self, h.lenm, e0])
      | (clear hK K)
      | fail)
    all_goals try (exfalso; (try clear hK K); clear hcl hbd; grind [mwOk, streamFB])
    all_goals (try simp only [e0, Bool.false_eq_true, if_false])
    all_goals (
      first | (refine EndA_rows0 [none] hcl (by first | exact Or.inr rfl | exact Or.inl rfl) (by simp only [Try.results28, resA, aresL, go_sem, reduceIte, reduceCtorEq, Nat.reduceAdd, Nat.reduceMul, Nat.reduceSub, Nat.reduceLeDiff, Nat.lt_irrefl, Nat.reduceEqDiff, Nat.reduceBEq, Int.reduceLE, Int.reduceLT, Int.reduceToNat, w64, eq_self] <;> rfl) (by decide) ?_ ?_ ⟨rfl, rfl⟩) | (refine EndA_rows [none] hcl (by first | exact Or.inr rfl | exact Or.inl rfl) (by simp only [Try.results28, resA, aresL, go_sem, reduceIte, reduceCtorEq, Nat.reduceAdd, Nat.reduceMul, Nat.reduceSub, Nat.reduceLeDiff, Nat.lt_irrefl, Nat.reduceEqDiff, Nat.reduceBEq, Int.reduceLE, Int.reduceLT, Int.reduceToNat, w64, eq_self] <;> rfl) (by decide) ?_ ?_ ⟨rfl, rfl⟩)
      rotate_left
      · repeat' (first | exact trivial | apply TdT.tup | apply TdT.one | apply TdL.agg | apply TdL.cell | exact TdB.old _ trivial rfl | exact TdB.virt 0 rfl | exact TdB.junk _ | exact TdB.old _ (by assumption) (by assumption) | refine And.intro ?_ ?_)
      all_goals (repeat' (first | (with_reducible exact RowOk.none) | ((with_reducible apply RowOk.eq); (exact rfl); rotate_left; (first | (with_reducible exact scal_int _ _) | (with_reducible exact scal_flt _ _) | (with_reducible exact scal_bool _) | (simp [LV.isCell, bnd]; done))) | exact trivial | refine And.intro ?_ ?_))
      all_goals (try rfl))
  · have e1 : streamFB xs = true ∧ inB l 1 128 = true := by unfold mwOk at e; simpa using e
    have e7 : 1 ≤ xs.length ∧ xs.length ≤ 128 ∧ xs.all finO = true := by have := e1.1; unfold streamFB at this; simpa [and_assoc] using this
    have hl2 : 1 ≤ l ∧ l ≤ 128 := by simpa [inB] using e1.2
    (refine FunH_body tyOk Try.func28 rfl (by kernel_rfl) Try.ntmps28 (fun hcl hbd => ?_); simp only [List.length_cons, List.length_nil, Nat.reduceAdd, Nat.reduceSub, List.replicate, List.cons_append, List.nil_append])
    repeat' (first
      | ((with_reducible refine hK _ _ ?_); clear hK K)
      | (with_reducible refine AW_seq (fun K hK => ?_))
      | (with_reducible refine AW_region tyOk ?_)
      | ((with_reducible refine AOps_cons (fun K hK => ?_)); simp (disch := first | omega | assumption | rfl | (exact liveO_setS (by assumption)) | (simp only [go_sem]; first | done | omega)) only [go_sem, reduceIte, reduceCtorEq, Nat.reduceAdd, Nat.reduceMul, Nat.reduceSub, Nat.reduceLeDiff, Nat.lt_irrefl, Nat.reduceEqDiff, Nat.reduceBEq, Int.reduceLE, Int.reduceLT, Int.reduceToNat, w64, eq_self, h.lenm, e1.1, e1.2])
      | ((with_reducible refine AOps_nil ?_); try simp only [thenA, blockA, if_true, if_false, reduceIte])
      | (with_reducible refine AW_block ?_)
      | ((with_reducible refine AW_ret ?_); try simp only [thenA, blockA])
      | ((with_reducible refine AW_skip ?_); try simp only [thenA, blockA])
      | ((with_reducible refine AW_exit ?_); try simp only [thenA, blockA, if_true, if_false, reduceIte, Nat.reduceEqDiff, reduceCtorEq])
      | ((with_reducible show AW _ _ (.cond _ _ _) _ _ _); refine AW_cond rfl (fun hg => ?_) (fun hg => ?_) <;> first | (exfalso; simp only [reduceCtorEq] at hg; done) | ((try simp only [Bool.not_eq_true', Bool.not_eq_false', decide_eq_true_eq, decide_eq_false_iff_not] at hg); try (exfalso; omega)))
      | ((with_reducible show _ ∧ _); refine And.intro (fun hg => ?_) (fun hg => ?_) <;> (try simp only [Bool.not_eq_true', Bool.not_eq_false'] at hg) <;> simp only [hg] <;> (try simp only [decide_eq_true_eq, decide_eq_false_iff_not] at hg))
      | ((with_reducible show FunH _ _ _ _ _); (first | (refine FunH.mono (l00In_c _ _ _ _) ?_) | (refine FunH.mono (l06Floats_c _ _ _ (by first | assumption | omega | rfl | exact RdL.app (by assumption) _ | exact RdL_h0 rfl (by simp) | exact RdL_hj rfl (by simp) | exact (hp_get0 _ _).trans rfl | exact (hp_getj _ _ _).trans rfl | exact RdL_nil | exact RdL_emp | (simp; done) | (simp; omega)) (by first | assumption | omega | rfl | exact RdL.app (by assumption) _ | exact RdL_h0 rfl (by simp) | exact RdL_hj rfl (by simp) | exact (hp_get0 _ _).trans rfl | exact (hp_getj _ _ _).trans rfl | exact RdL_nil | exact RdL_emp | (simp; done) | (simp; omega))) ?_) | (refine FunH.mono (l00Max_c _ _ _) ?_) | (refine FunH.mono (l01Finite_c _ _) ?_)); rintro r H1 ⟨hr1, hr2⟩; replace hr1 := hr1.symm; replace hr2 := hr2.symm; subst hr1; subst hr2; try simp (disch := first | omega | assumption | rfl | (exact liveO_setS (by assumption)) | (simp only [go_sem]; first | done | omega)) only [go_sem, reduceIte, reduceCtorEq, Nat.reduceAdd, Nat.reduceMul, Nat.reduceSub, Nat.reduceLeDiff, Nat.lt_irrefl, Nat.reduceEqDiff, Nat.reduceBEq, Int.reduceLE, Int.reduceLT, Int.reduceToNat, w64, eq_self, h.lenm, e1.1, e1.2])
      | (clear hK K)
      | fail)
    refine AW_loopV [4, 5, 6, 7, 8, 9, 10, 11, 21, 22, 23, 24, 25, 26, 27, 28, 29, 30, 31, 32, 33, 34, 35, 36, 37, 38, 39, 40, 41, 42, 43, 44, 45, 46, 47, 48, 49, 50, 51, 52, 53, 54, 55, 56, 57] (fun p : Nat × Nat × Hp => [(6, .sl H.length p.2.1 0 p.1 none), (7, .int .i64 (p.1 : Nat))]) (fun p => H ++ ⟨p.2.1, false, 45, 1, (meanL xs l p.1).map (LV.flt .f32)⟩ :: p.2.2) (fun p => p.1 ≤ xs.length ∧ ∀ j, j < p.1 → finO (meanF xs l j) = true) (fun p => xs.length - p.1) (0, 0, []) ⟨Nat.zero_le _, fun j hj => by simp at hj⟩ ?_ rfl ?_
    · simp only [junkAll, setAll, List.foldl_cons, List.foldl_nil, List.set_cons_succ, List.set_cons_zero, JL, true_or, or_true, and_true, true_and, reduceCtorEq, false_or, or_false, LV.int.injEq, LV.bool.injEq, LV.flt.injEq, LV.sl.injEq, LV.ptr.injEq, eq_self, Int.natCast_add, Int.natCast_one, Int.natCast_zero, Int.ofNat_zero]
    · intro ⟨k, ver, G⟩ ⟨hk, hp⟩ K hK
      simp only at hk hp
      have hll := meanL_len xs l k
      have hfl := fromW_le' k l hl2.1
      have hfe := fromW_eq k l
      simp only [junkAll, setAll, List.foldl_cons, List.foldl_nil, List.set_cons_succ, List.set_cons_zero]
      by_cases hkk : k < xs.length
      · have hlf := lastF_len xs l k hkk
        have hix : ∀ j, j < (lastF xs l k).length → ix (lastF xs l k) j = ix xs (fromW k l + j) := fun j hj => by
          rw [ix_eq _ _ hj, ix_eq _ _ (by omega)]
          simp only [lastF, List.getElem_take, List.getElem_drop]
        repeat' (first
          | ((with_reducible refine hK _ _ ?_); clear hK K)
          | (with_reducible refine AW_seq (fun K hK => ?_))
          | (with_reducible refine AW_region tyOk ?_)
          | ((with_reducible refine AOps_cons (fun K hK => ?_)); simp (disch := first | omega | assumption | rfl | (exact liveO_setS (by assumption)) | (simp only [go_sem]; first | done | omega)) only [go_sem, reduceIte, reduceCtorEq, Nat.reduceAdd, Nat.reduceMul, Nat.reduceSub, Nat.reduceLeDiff, Nat.lt_irrefl, Nat.reduceEqDiff, Nat.reduceBEq, Int.reduceLE, Int.reduceLT, Int.reduceToNat, w64, eq_self, h.lenm, h.idxmA, h.ldmA, hfe])
          | ((with_reducible refine AOps_nil ?_); try simp only [thenA, blockA, if_true, if_false, reduceIte])
          | (with_reducible refine AW_block ?_)
          | ((with_reducible refine AW_ret ?_); try simp only [thenA, blockA])
          | ((with_reducible refine AW_skip ?_); try simp only [thenA, blockA])
          | ((with_reducible refine AW_exit ?_); try simp only [thenA, blockA, if_true, if_false, reduceIte, Nat.reduceEqDiff, reduceCtorEq])
          | ((with_reducible show AW _ _ (.cond _ _ _) _ _ _); refine AW_cond rfl (fun hg => ?_) (fun hg => ?_) <;> first | (exfalso; simp only [reduceCtorEq] at hg; done) | ((try simp only [Bool.not_eq_true', Bool.not_eq_false', decide_eq_true_eq, decide_eq_false_iff_not] at hg); try (exfalso; omega)))
          | ((with_reducible show _ ∧ _); refine And.intro (fun hg => ?_) (fun hg => ?_) <;> (try simp only [Bool.not_eq_true', Bool.not_eq_false'] at hg) <;> simp only [hg] <;> (try simp only [decide_eq_true_eq, decide_eq_false_iff_not] at hg))
          | ((with_reducible show FunH _ _ _ _ _); (first | (refine FunH.mono (l00In_c _ _ _ _) ?_) | (refine FunH.mono (l06Floats_c _ _ _ (by first | assumption | omega | rfl | exact RdL.app (by assumption) _ | exact RdL_h0 rfl (by simp) | exact RdL_hj rfl (by simp) | exact (hp_get0 _ _).trans rfl | exact (hp_getj _ _ _).trans rfl | exact RdL_nil | exact RdL_emp | (simp; done) | (simp; omega)) (by first | assumption | omega | rfl | exact RdL.app (by assumption) _ | exact RdL_h0 rfl (by simp) | exact RdL_hj rfl (by simp) | exact (hp_get0 _ _).trans rfl | exact (hp_getj _ _ _).trans rfl | exact RdL_nil | exact RdL_emp | (simp; done) | (simp; omega))) ?_) | (refine FunH.mono (l00Max_c _ _ _) ?_) | (refine FunH.mono (l01Finite_c _ _) ?_)); rintro r H1 ⟨hr1, hr2⟩; replace hr1 := hr1.symm; replace hr2 := hr2.symm; subst hr1; subst hr2; try simp (disch := first | omega | assumption | rfl | (exact liveO_setS (by assumption)) | (simp only [go_sem]; first | done | omega)) only [go_sem, reduceIte, reduceCtorEq, Nat.reduceAdd, Nat.reduceMul, Nat.reduceSub, Nat.reduceLeDiff, Nat.lt_irrefl, Nat.reduceEqDiff, Nat.reduceBEq, Int.reduceLE, Int.reduceLT, Int.reduceToNat, w64, eq_self, h.lenm, h.idxmA, h.ldmA, hfe])
          | (clear hK K)
          | fail)
        refine AW_loopV [8, 10, 33, 34, 35, 36, 37, 38, 39, 40, 41, 42, 43] (fun j : Nat => [(8, .flt .f32 (fsum ((lastF xs l k).take j))), (10, .int .i64 (fromW k l + j : Nat))]) (fun _ => H ++ ⟨ver, false, 45, 1, (meanL xs l k).map (LV.flt .f32)⟩ :: G) (fun j => j ≤ (lastF xs l k).length) (fun j => (lastF xs l k).length - j) 0 (Nat.zero_le _) ?_ rfl ?_
        · simp only [junkAll, setAll, List.foldl_cons, List.foldl_nil, List.set_cons_succ, List.set_cons_zero, JL, true_or, or_true, and_true, true_and, reduceCtorEq, false_or, or_false, LV.int.injEq, LV.bool.injEq, LV.flt.injEq, LV.sl.injEq, LV.ptr.injEq, eq_self, Int.natCast_add, Int.natCast_one, Int.natCast_zero, Int.ofNat_zero]; exact ⟨rfl, by omega⟩
        · intro j hj K hK
          simp only [junkAll, setAll, List.foldl_cons, List.foldl_nil, List.set_cons_succ, List.set_cons_zero]
          repeat' (first
            | ((with_reducible refine hK _ _ ?_); clear hK K)
            | (with_reducible refine AW_seq (fun K hK => ?_))
            | (with_reducible refine AW_region tyOk ?_)
            | ((with_reducible refine AOps_cons (fun K hK => ?_)); simp (disch := first | omega | assumption | rfl | (exact liveO_setS (by assumption)) | (simp only [go_sem]; first | done | omega)) only [go_sem, reduceIte, reduceCtorEq, Nat.reduceAdd, Nat.reduceMul, Nat.reduceSub, Nat.reduceLeDiff, Nat.lt_irrefl, Nat.reduceEqDiff, Nat.reduceBEq, Int.reduceLE, Int.reduceLT, Int.reduceToNat, w64, eq_self, h.lenm, h.idxmA, h.ldmA, hfe])
            | ((with_reducible refine AOps_nil ?_); try simp only [thenA, blockA, if_true, if_false, reduceIte])
            | (with_reducible refine AW_block ?_)
            | ((with_reducible refine AW_ret ?_); try simp only [thenA, blockA])
            | ((with_reducible refine AW_skip ?_); try simp only [thenA, blockA])
            | ((with_reducible refine AW_exit ?_); try simp only [thenA, blockA, if_true, if_false, reduceIte, Nat.reduceEqDiff, reduceCtorEq])
            | ((with_reducible show AW _ _ (.cond _ _ _) _ _ _); refine AW_cond rfl (fun hg => ?_) (fun hg => ?_) <;> first | (exfalso; simp only [reduceCtorEq] at hg; done) | ((try simp only [Bool.not_eq_true', Bool.not_eq_false', decide_eq_true_eq, decide_eq_false_iff_not] at hg); try (exfalso; omega)))
            | ((with_reducible show _ ∧ _); refine And.intro (fun hg => ?_) (fun hg => ?_) <;> (try simp only [Bool.not_eq_true', Bool.not_eq_false'] at hg) <;> simp only [hg] <;> (try simp only [decide_eq_true_eq, decide_eq_false_iff_not] at hg))
            | ((with_reducible show FunH _ _ _ _ _); (first | (refine FunH.mono (l00In_c _ _ _ _) ?_) | (refine FunH.mono (l06Floats_c _ _ _ (by first | assumption | omega | rfl | exact RdL.app (by assumption) _ | exact RdL_h0 rfl (by simp) | exact RdL_hj rfl (by simp) | exact (hp_get0 _ _).trans rfl | exact (hp_getj _ _ _).trans rfl | exact RdL_nil | exact RdL_emp | (simp; done) | (simp; omega)) (by first | assumption | omega | rfl | exact RdL.app (by assumption) _ | exact RdL_h0 rfl (by simp) | exact RdL_hj rfl (by simp) | exact (hp_get0 _ _).trans rfl | exact (hp_getj _ _ _).trans rfl | exact RdL_nil | exact RdL_emp | (simp; done) | (simp; omega))) ?_) | (refine FunH.mono (l00Max_c _ _ _) ?_) | (refine FunH.mono (l01Finite_c _ _) ?_)); rintro r H1 ⟨hr1, hr2⟩; replace hr1 := hr1.symm; replace hr2 := hr2.symm; subst hr1; subst hr2; try simp (disch := first | omega | assumption | rfl | (exact liveO_setS (by assumption)) | (simp only [go_sem]; first | done | omega)) only [go_sem, reduceIte, reduceCtorEq, Nat.reduceAdd, Nat.reduceMul, Nat.reduceSub, Nat.reduceLeDiff, Nat.lt_irrefl, Nat.reduceEqDiff, Nat.reduceBEq, Int.reduceLE, Int.reduceLT, Int.reduceToNat, w64, eq_self, h.lenm, h.idxmA, h.ldmA, hfe])
            | (clear hK K)
            | fail)
          · refine hK _ _ (j + 1) (by (try simp only); omega) (by (try simp only); omega) ?j6 ?h6
            case h6 => (rfl)
            case j6 => (simp only [junkAll, setAll, List.foldl_cons, List.foldl_nil, List.set_cons_succ, List.set_cons_zero, JL, true_or, or_true, and_true, true_and, reduceCtorEq, false_or, or_false, LV.int.injEq, LV.bool.injEq, LV.flt.injEq, LV.sl.injEq, LV.ptr.injEq, eq_self, Int.natCast_add, Int.natCast_one, Int.natCast_zero, Int.ofNat_zero]; rw [fsum_take (by omega), hix j (by omega)]; exact ⟨rfl, by omega⟩)
          · have ej : j = (lastF xs l k).length := by omega
            have em : opC .quo .f32 (fsum ((lastF xs l k).take j)) (some (FloatKind.f32.nearest ((k : Int) - (fromW k l : Nat) + 1))) = meanF xs l k := by
              rw [ej, List.take_length, show ((k : Int) - (fromW k l : Nat) + 1) = ((k + 1 - fromW k l : Nat) : Int) by omega]; rfl
            rw [em] at hg
            have e2 : (meanL xs l xs.length).all finO = false := by
              refine not_all_of_ix (j := k) (by rw [meanL_len]; omega) ?_
              rw [ix_eq _ _ (by rw [meanL_len]; omega)]; simpa [meanL] using hg
            have e3 : mwB xs l = false := by unfold mwB; rw [e2]; simp
            simp only [e3, Bool.false_eq_true, if_false]
            first | (refine EndA_rows0 [none] hcl (by first | exact Or.inr rfl | exact Or.inl rfl) (by simp only [Try.results28, resA, aresL, go_sem, reduceIte, reduceCtorEq, Nat.reduceAdd, Nat.reduceMul, Nat.reduceSub, Nat.reduceLeDiff, Nat.lt_irrefl, Nat.reduceEqDiff, Nat.reduceBEq, Int.reduceLE, Int.reduceLT, Int.reduceToNat, w64, eq_self] <;> rfl) (by decide) ?_ ?_ ⟨rfl, rfl⟩) | (refine EndA_rows [none] hcl (by first | exact Or.inr rfl | exact Or.inl rfl) (by simp only [Try.results28, resA, aresL, go_sem, reduceIte, reduceCtorEq, Nat.reduceAdd, Nat.reduceMul, Nat.reduceSub, Nat.reduceLeDiff, Nat.lt_irrefl, Nat.reduceEqDiff, Nat.reduceBEq, Int.reduceLE, Int.reduceLT, Int.reduceToNat, w64, eq_self] <;> rfl) (by decide) ?_ ?_ ⟨rfl, rfl⟩)
            rotate_left
            · repeat' (first | exact trivial | apply TdT.tup | apply TdT.one | apply TdL.agg | apply TdL.cell | exact TdB.old _ trivial rfl | exact TdB.virt 0 rfl | exact TdB.junk _ | exact TdB.old _ (by assumption) (by assumption) | refine And.intro ?_ ?_)
            all_goals (repeat' (first | (with_reducible exact RowOk.none) | ((with_reducible apply RowOk.eq); (exact rfl); rotate_left; (first | (with_reducible exact scal_int _ _) | (with_reducible exact scal_flt _ _) | (with_reducible exact scal_bool _) | (simp [LV.isCell, bnd]; done))) | exact trivial | refine And.intro ?_ ?_))
            all_goals (try rfl)
          · have ej : j = (lastF xs l k).length := by omega
            have em : opC .quo .f32 (fsum ((lastF xs l k).take j)) (some (FloatKind.f32.nearest ((k : Int) - (fromW k l : Nat) + 1))) = meanF xs l k := by
              rw [ej, List.take_length, show ((k : Int) - (fromW k l : Nat) + 1) = ((k + 1 - fromW k l : Nat) : Int) by omega]; rfl
            rw [em] at hg ⊢
            refine hK _ _ (k + 1, ver + 1, ?G9) ⟨by (try simp only); omega, lt_succ_cases hp hg⟩ (by (try simp only); omega) ?j9 ?h9
            case h9 => (rw [meanL_succ, List.map_append]; rfl)
            case j9 => simp only [junkAll, setAll, List.foldl_cons, List.foldl_nil, List.set_cons_succ, List.set_cons_zero, JL, true_or, or_true, and_true, true_and, reduceCtorEq, false_or, or_false, LV.int.injEq, LV.bool.injEq, LV.flt.injEq, LV.sl.injEq, LV.ptr.injEq, eq_self, Int.natCast_add, Int.natCast_one, Int.natCast_zero, Int.ofNat_zero]
      · have ek : k = xs.length := by omega
        subst ek
        have e2 : (meanL xs l xs.length).all finO = true := by
          refine all_of_ix fun j hj => ?_
          rw [meanL_len] at hj
          rw [ix_eq _ _ (by rw [meanL_len]; omega)]; simpa [meanL] using hp j hj
        have e3 : mwB xs l = true := by unfold mwB; rw [e2, e]; rfl
        repeat' (first
          | ((with_reducible refine hK _ _ ?_); clear hK K)
          | (with_reducible refine AW_seq (fun K hK => ?_))
          | (with_reducible refine AW_region tyOk ?_)
          | ((with_reducible refine AOps_cons (fun K hK => ?_)); simp (disch := first | omega | assumption | rfl | (exact liveO_setS (by assumption)) | (simp only [go_sem]; first | done | omega)) only [go_sem, reduceIte, reduceCtorEq, Nat.reduceAdd, Nat.reduceMul, Nat.reduceSub, Nat.reduceLeDiff, Nat.lt_irrefl, Nat.reduceEqDiff, Nat.reduceBEq, Int.reduceLE, Int.reduceLT, Int.reduceToNat, w64, eq_self, h.lenm, h.idxmA, h.ldmA])
          | ((with_reducible refine AOps_nil ?_); try simp only [thenA, blockA, if_true, if_false, reduceIte])
          | (with_reducible refine AW_block ?_)
          | ((with_reducible refine AW_ret ?_); try simp only [thenA, blockA])
          | ((with_reducible refine AW_skip ?_); try simp only [thenA, blockA])
          | ((with_reducible refine AW_exit ?_); try simp only [thenA, blockA, if_true, if_false, reduceIte, Nat.reduceEqDiff, reduceCtorEq])
          | ((with_reducible show AW _ _ (.cond _ _ _) _ _ _); refine AW_cond rfl (fun hg => ?_) (fun hg => ?_) <;> first | (exfalso; simp only [reduceCtorEq] at hg; done) | ((try simp only [Bool.not_eq_true', Bool.not_eq_false', decide_eq_true_eq, decide_eq_false_iff_not] at hg); try (exfalso; omega)))
          | ((with_reducible show _ ∧ _); refine And.intro (fun hg => ?_) (fun hg => ?_) <;> (try simp only [Bool.not_eq_true', Bool.not_eq_false'] at hg) <;> simp only [hg] <;> (try simp only [decide_eq_true_eq, decide_eq_false_iff_not] at hg))
          | ((with_reducible show FunH _ _ _ _ _); (first | (refine FunH.mono (l00In_c _ _ _ _) ?_) | (refine FunH.mono (l06Floats_c _ _ _ (by first | assumption | omega | rfl | exact RdL.app (by assumption) _ | exact RdL_h0 rfl (by simp) | exact RdL_hj rfl (by simp) | exact (hp_get0 _ _).trans rfl | exact (hp_getj _ _ _).trans rfl | exact RdL_nil | exact RdL_emp | (simp; done) | (simp; omega)) (by first | assumption | omega | rfl | exact RdL.app (by assumption) _ | exact RdL_h0 rfl (by simp) | exact RdL_hj rfl (by simp) | exact (hp_get0 _ _).trans rfl | exact (hp_getj _ _ _).trans rfl | exact RdL_nil | exact RdL_emp | (simp; done) | (simp; omega))) ?_) | (refine FunH.mono (l00Max_c _ _ _) ?_) | (refine FunH.mono (l01Finite_c _ _) ?_)); rintro r H1 ⟨hr1, hr2⟩; replace hr1 := hr1.symm; replace hr2 := hr2.symm; subst hr1; subst hr2; try simp (disch := first | omega | assumption | rfl | (exact liveO_setS (by assumption)) | (simp only [go_sem]; first | done | omega)) only [go_sem, reduceIte, reduceCtorEq, Nat.reduceAdd, Nat.reduceMul, Nat.reduceSub, Nat.reduceLeDiff, Nat.lt_irrefl, Nat.reduceEqDiff, Nat.reduceBEq, Int.reduceLE, Int.reduceLT, Int.reduceToNat, w64, eq_self, h.lenm, h.idxmA, h.ldmA])
          | (clear hK K)
          | fail)
        simp only [e3, if_true, meanL_len]
        refine EndA_rows [some 0] hcl (by first | exact Or.inr rfl | exact Or.inl rfl) (by simp only [Try.results28, resA, aresL, go_sem, reduceIte, reduceCtorEq, Nat.reduceAdd, Nat.reduceMul, Nat.reduceSub, Nat.reduceLeDiff, Nat.lt_irrefl, Nat.reduceEqDiff, Nat.reduceBEq, Int.reduceLE, Int.reduceLT, Int.reduceToNat, w64, eq_self] <;> rfl) (by decide) ?_ ?_ ⟨rfl, rfl⟩
        rotate_left
        · repeat' (first | exact trivial | apply TdT.tup | apply TdT.one | apply TdL.agg | apply TdL.cell | exact TdB.old _ trivial rfl | exact TdB.own 0 0 _ _ _ _ rfl _ rfl rfl | exact TdB.junk _ | exact TdB.old _ (by assumption) (by assumption) | refine And.intro ?_ ?_)
        all_goals (repeat' (first | (with_reducible exact RowOk.none) | ((with_reducible apply RowOk.eq); (exact rfl); rotate_left; (first | (with_reducible exact scal_int _ _) | (with_reducible exact scal_flt _ _) | (with_reducible exact scal_bool _) | (simp [LV.isCell, bnd]; done))) | exact trivial | refine And.intro ?_ ?_))
        all_goals (try rfl)
end Go.Proofs.Ytldbojmonegdbaa
