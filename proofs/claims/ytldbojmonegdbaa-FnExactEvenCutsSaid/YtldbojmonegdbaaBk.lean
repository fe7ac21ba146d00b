/- EvenCuts in the abstract machine. -/
import Derived.Test.YtldbojmonegdbaaBj
namespace Go.Proofs.Ytldbojmonegdbaa
open Go.RowKit
set_option linter.unusedSimpArgs false
set_option linter.unusedVariables false
set_option maxRecDepth 100000

def partsB (xs : List (Option Nat)) (p : Int) : Bool := listB xs && inB p 1 xs.length
theorem partsB_iff {xs : List (Option Nat)} {p : Int} (h : partsB xs p = true) : 1 ≤ xs.length ∧ xs.length ≤ 256 ∧ 1 ≤ p ∧ p ≤ xs.length := by
  unfold partsB at h
  simp only [Bool.and_eq_true] at h
  have h1 := listB_len h.1
  have h2 := h.2
  simp only [inB, Bool.and_eq_true, decide_eq_true_eq] at h2
  exact ⟨h1.1, h1.2.1, h2⟩
theorem areParts_c (lv : LV) (xs : List (Option Nat)) (p : Int) (H : Hp) (h : RdL H lv (xs.map (LV.flt .f32))) (hn : xs.length ≤ 17592186044416) : FunH Try.prog 66 [lv, .int .i64 p] H fun r H' => r = .bool (partsB xs p) ∧ H' = H := by
  unfold partsB
  (refine FunH_body tyOk Try.func66 rfl (by kernel_rfl) Try.ntmps66 (fun hcl hbd => ?_); simp only [List.length_cons, List.length_nil, Nat.reduceAdd, Nat.reduceSub, List.replicate, List.cons_append, List.nil_append])
  repeat' (first
    | ((with_reducible refine hK _ _ ?_); clear hK K)
    | (with_reducible refine AW_seq (fun K hK => ?_))
    | (with_reducible refine AW_region tyOk ?_)
    | ((with_reducible refine AOps_cons (fun K hK => ?_)); simp (disch := first | omega | assumption | rfl | (exact liveO_setS (by assumption)) | (simp only [go_sem]; first | done | omega)) only [go_sem, reduceIte, reduceCtorEq, Nat.reduceAdd, Nat.reduceMul, Nat.reduceSub, Nat.reduceLeDiff, Nat.lt_irrefl, Nat.reduceEqDiff, Nat.reduceBEq, Int.reduceLE, Int.reduceLT, Int.reduceToNat, w64, eq_self, h.lenm])
    | ((with_reducible refine AOps_nil ?_); try simp only [thenA, blockA, if_true, if_false, reduceIte])
    | (with_reducible refine AW_block ?_)
    | ((with_reducible refine AW_ret ?_); try simp only [thenA, blockA])
    | ((with_reducible refine AW_skip ?_); try simp only [thenA, blockA])
    | ((with_reducible refine AW_exit ?_); try simp only [thenA, blockA, if_true, if_false, reduceIte, Nat.reduceEqDiff, reduceCtorEq])
    | (refine AW_cond rfl (fun hg => ?_) (fun hg => ?_) <;> first | (exfalso; simp only [reduceCtorEq] at hg; done) | ((try simp only [Bool.not_eq_true', Bool.not_eq_false', decide_eq_true_eq, decide_eq_false_iff_not] at hg); try (exfalso; omega)))
    | (refine And.intro (fun hg => ?_) (fun hg => ?_) <;> (try simp only [Bool.not_eq_true', Bool.not_eq_false'] at hg) <;> simp only [hg] <;> (try simp only [decide_eq_true_eq, decide_eq_false_iff_not] at hg))
    | ((first | (refine FunH.mono (within_c _ _ _ _) ?_) | (refine FunH.mono (IsList_c _ _ _ (by first | assumption | omega | rfl | exact RdL.app (by assumption) _ | exact RdL_h0 rfl (by simp) | exact RdL_hj rfl (by simp) | exact (hp_get0 _ _).trans rfl | exact (hp_getj _ _ _).trans rfl | exact RdL_nil | exact RdL_emp | (simp; done) | (simp; omega)) (by first | assumption | omega | rfl | exact RdL.app (by assumption) _ | exact RdL_h0 rfl (by simp) | exact RdL_hj rfl (by simp) | exact (hp_get0 _ _).trans rfl | exact (hp_getj _ _ _).trans rfl | exact RdL_nil | exact RdL_emp | (simp; done) | (simp; omega))) ?_)); rintro r H1 ⟨hr1, hr2⟩; replace hr1 := hr1.symm; replace hr2 := hr2.symm; subst hr1; subst hr2; try simp (disch := first | omega | assumption | rfl | (exact liveO_setS (by assumption)) | (simp only [go_sem]; first | done | omega)) only [go_sem, reduceIte, reduceCtorEq, Nat.reduceAdd, Nat.reduceMul, Nat.reduceSub, Nat.reduceLeDiff, Nat.lt_irrefl, Nat.reduceEqDiff, Nat.reduceBEq, Int.reduceLE, Int.reduceLT, Int.reduceToNat, w64, eq_self, h.lenm])
    | (clear hK K)
    | fail)
  all_goals (first | refine EndA_cut hcl (by first | exact Or.inr rfl | exact Or.inl rfl) (by simp only [Try.results66, resA, aresL, go_sem, reduceIte, reduceCtorEq, Nat.reduceAdd, Nat.reduceMul, Nat.reduceSub, Nat.reduceLeDiff, Nat.lt_irrefl, Nat.reduceEqDiff, Nat.reduceBEq, Int.reduceLE, Int.reduceLT, Int.reduceToNat, w64, eq_self] <;> rfl) rfl ?_ | refine EndA_same (by first | exact Or.inr rfl | exact Or.inl rfl) (by simp only [Try.results66, resA, aresL, go_sem, reduceIte, reduceCtorEq, Nat.reduceAdd, Nat.reduceMul, Nat.reduceSub, Nat.reduceLeDiff, Nat.lt_irrefl, Nat.reduceEqDiff, Nat.reduceBEq, Int.reduceLE, Int.reduceLT, Int.reduceToNat, w64, eq_self] <;> rfl) ?_)
  all_goals (refine ⟨congrArg LV.bool ?_, rfl⟩; first | rfl | (grind))
def evenI (n : Nat) (p : Int) (i : Nat) : Int := (((i + 1 : Nat) : Int) * (n : Int)).tdiv p
def evenL (n : Nat) (p : Int) (k : Nat) : List Int := (List.range k).map (evenI n p)
theorem evenL_len (n : Nat) (p : Int) (k : Nat) : (evenL n p k).length = k := by simp [evenL]
theorem evenL_succ (n : Nat) (p : Int) (k : Nat) : evenL n p (k + 1) = evenL n p k ++ [evenI n p k] := by simp [evenL, List.range_succ]
def evenR (xs : List (Option Nat)) (p : Int) : List Int := if partsB xs p then evenL xs.length p (p - 1).toNat else []
theorem evenR_len (xs : List (Option Nat)) (p : Int) : (evenR xs p).length ≤ 256 := by
  unfold evenR
  split
  · rename_i h
    have := partsB_iff h
    rw [evenL_len]; omega
  · simp
theorem even_bound (n : Nat) (p : Int) (k : Nat) (hn : n ≤ 256) (hk : k ≤ 256) (hp : 1 ≤ p) : 0 ≤ ((k : Nat) : Int) * (n : Int) ∧ ((k : Nat) : Int) * (n : Int) ≤ 65536 ∧ 0 ≤ (((k : Nat) : Int) * (n : Int)).tdiv p ∧ (((k : Nat) : Int) * (n : Int)).tdiv p ≤ 65536 := by
  have h1 : k * n ≤ 256 * 256 := Nat.mul_le_mul hk hn
  have h2 : ((k : Nat) : Int) * (n : Int) = ((k * n : Nat) : Int) := by push_cast; rfl
  rw [h2]
  have h3 : 0 ≤ ((k * n : Nat) : Int).tdiv p := Int.tdiv_nonneg (by omega) (by omega)
  have h4 : ((k * n : Nat) : Int).tdiv p ≤ ((k * n : Nat) : Int) := Int.tdiv_le_self _ (by omega)
  omega
theorem iEvenCuts_c (lv : LV) (xs : List (Option Nat)) (p : Int) (H : Hp) (h : RdL H lv (xs.map (LV.flt .f32))) (hn : xs.length ≤ 1048576) :
    FunH Try.prog 17 [lv, .int .i64 p] H fun r H' => r = .tup [.sl H.length 0 0 (evenR xs p).length none, .bool (partsB xs p)] ∧ H' = H ++ [⟨0, false, 2, 1, (evenR xs p).map (LV.int .i64)⟩] := by
  unfold evenR
  cases e : partsB xs p
  · (refine FunH_body tyOk Try.func17 rfl (by kernel_rfl) Try.ntmps17 (fun hcl hbd => ?_); simp only [List.length_cons, List.length_nil, Nat.reduceAdd, Nat.reduceSub, List.replicate, List.cons_append, List.nil_append])
    repeat' (first
      | ((with_reducible refine hK _ _ ?_); clear hK K)
      | (with_reducible refine AW_seq (fun K hK => ?_))
      | (with_reducible refine AW_region tyOk ?_)
      | ((with_reducible refine AOps_cons (fun K hK => ?_)); simp (disch := first | omega | assumption | rfl | (exact liveO_setS (by assumption)) | (simp only [go_sem]; first | done | omega)) only [go_sem, reduceIte, reduceCtorEq, Nat.reduceAdd, Nat.reduceMul, Nat.reduceSub, Nat.reduceLeDiff, Nat.lt_irrefl, Nat.reduceEqDiff, Nat.reduceBEq, Int.reduceLE, Int.reduceLT, Int.reduceToNat, w64, eq_self, h.lenm, e])
      | ((with_reducible refine AOps_nil ?_); try simp only [thenA, blockA, if_true, if_false, reduceIte])
      | (with_reducible refine AW_block ?_)
      | ((with_reducible refine AW_ret ?_); try simp only [thenA, blockA])
      | ((with_reducible refine AW_skip ?_); try simp only [thenA, blockA])
      | ((with_reducible refine AW_exit ?_); try simp only [thenA, blockA, if_true, if_false, reduceIte, Nat.reduceEqDiff, reduceCtorEq])
      | (refine AW_cond rfl (fun hg => ?_) (fun hg => ?_) <;> first | (exfalso; simp only [reduceCtorEq] at hg; done) | ((try simp only [Bool.not_eq_true', Bool.not_eq_false', decide_eq_true_eq, decide_eq_false_iff_not] at hg); try (exfalso; omega)))
      | (refine And.intro (fun hg => ?_) (fun hg => ?_) <;> (try simp only [Bool.not_eq_true', Bool.not_eq_false'] at hg) <;> simp only [hg] <;> (try simp only [decide_eq_true_eq, decide_eq_false_iff_not] at hg))
      | ((first | (refine FunH.mono (areParts_c _ _ _ _ (by first | assumption | omega | rfl | exact RdL.app (by assumption) _ | exact RdL_h0 rfl (by simp) | exact RdL_hj rfl (by simp) | exact (hp_get0 _ _).trans rfl | exact (hp_getj _ _ _).trans rfl | exact RdL_nil | exact RdL_emp | (simp; done) | (simp; omega)) (by first | assumption | omega | rfl | exact RdL.app (by assumption) _ | exact RdL_h0 rfl (by simp) | exact RdL_hj rfl (by simp) | exact (hp_get0 _ _).trans rfl | exact (hp_getj _ _ _).trans rfl | exact RdL_nil | exact RdL_emp | (simp; done) | (simp; omega))) ?_)); rintro r H1 ⟨hr1, hr2⟩; replace hr1 := hr1.symm; replace hr2 := hr2.symm; subst hr1; subst hr2; try simp (disch := first | omega | assumption | rfl | (exact liveO_setS (by assumption)) | (simp only [go_sem]; first | done | omega)) only [go_sem, reduceIte, reduceCtorEq, Nat.reduceAdd, Nat.reduceMul, Nat.reduceSub, Nat.reduceLeDiff, Nat.lt_irrefl, Nat.reduceEqDiff, Nat.reduceBEq, Int.reduceLE, Int.reduceLT, Int.reduceToNat, w64, eq_self, h.lenm, e])
      | (clear hK K)
      | fail)
    all_goals try (exfalso; unfold partsB at e; simp [*] at e; done)
    all_goals simp only [Bool.false_eq_true, if_false]
    all_goals (
      refine EndA_rows0 [none] hcl (by first | exact Or.inr rfl | exact Or.inl rfl) (by simp only [Try.results17, resA, aresL, go_sem, reduceIte, reduceCtorEq, Nat.reduceAdd, Nat.reduceMul, Nat.reduceSub, Nat.reduceLeDiff, Nat.lt_irrefl, Nat.reduceEqDiff, Nat.reduceBEq, Int.reduceLE, Int.reduceLT, Int.reduceToNat, w64, eq_self] <;> rfl) (by decide) ?_ ?_ ⟨rfl, rfl⟩
      rotate_left
      · repeat' (first | exact trivial | apply TdT.tup | apply TdT.one | apply TdL.agg | apply TdL.cell | exact TdB.old _ trivial rfl | exact TdB.virt 0 rfl | exact TdB.junk _ | exact TdB.old _ (by assumption) (by assumption) | refine And.intro ?_ ?_)
      all_goals (repeat' (first | (with_reducible exact RowOk.none) | ((with_reducible apply RowOk.eq); (exact rfl); rotate_left; (first | (with_reducible exact scal_int _ _) | (with_reducible exact scal_flt _ _) | (with_reducible exact scal_bool _) | (simp [LV.isCell, bnd]; done))) | exact trivial | refine And.intro ?_ ?_))
      all_goals (try rfl))
  · have hb := partsB_iff e
    have e1 : listB xs = true ∧ inB p 1 xs.length = true := by unfold partsB at e; simpa using e
    obtain ⟨m, hm⟩ : ∃ m : Nat, p = ((m + 1 : Nat) : Int) := ⟨(p - 1).toNat, by omega⟩
    have hm2 : (p - 1).toNat = m := by omega
    rw [hm2]
    simp only [if_true]
    (refine FunH_body tyOk Try.func17 rfl (by kernel_rfl) Try.ntmps17 (fun hcl hbd => ?_); simp only [List.length_cons, List.length_nil, Nat.reduceAdd, Nat.reduceSub, List.replicate, List.cons_append, List.nil_append])
    repeat' (first
      | ((with_reducible refine hK _ _ ?_); clear hK K)
      | (with_reducible refine AW_seq (fun K hK => ?_))
      | (with_reducible refine AW_region tyOk ?_)
      | ((with_reducible refine AOps_cons (fun K hK => ?_)); simp (disch := first | omega | assumption | rfl | (exact liveO_setS (by assumption)) | (simp only [go_sem]; first | done | omega)) only [go_sem, reduceIte, reduceCtorEq, Nat.reduceAdd, Nat.reduceMul, Nat.reduceSub, Nat.reduceLeDiff, Nat.lt_irrefl, Nat.reduceEqDiff, Nat.reduceBEq, Int.reduceLE, Int.reduceLT, Int.reduceToNat, w64, eq_self, h.lenm, e, e1.1, e1.2])
      | ((with_reducible refine AOps_nil ?_); try simp only [thenA, blockA, if_true, if_false, reduceIte])
      | (with_reducible refine AW_block ?_)
      | ((with_reducible refine AW_ret ?_); try simp only [thenA, blockA])
      | ((with_reducible refine AW_skip ?_); try simp only [thenA, blockA])
      | ((with_reducible refine AW_exit ?_); try simp only [thenA, blockA, if_true, if_false, reduceIte, Nat.reduceEqDiff, reduceCtorEq])
      | (refine AW_cond rfl (fun hg => ?_) (fun hg => ?_) <;> first | (exfalso; simp only [reduceCtorEq] at hg; done) | ((try simp only [Bool.not_eq_true', Bool.not_eq_false', decide_eq_true_eq, decide_eq_false_iff_not] at hg); try (exfalso; omega)))
      | (refine And.intro (fun hg => ?_) (fun hg => ?_) <;> (try simp only [Bool.not_eq_true', Bool.not_eq_false'] at hg) <;> simp only [hg] <;> (try simp only [decide_eq_true_eq, decide_eq_false_iff_not] at hg))
      | ((first | (refine FunH.mono (areParts_c _ _ _ _ (by first | assumption | omega | rfl | exact RdL.app (by assumption) _ | exact RdL_h0 rfl (by simp) | exact RdL_hj rfl (by simp) | exact (hp_get0 _ _).trans rfl | exact (hp_getj _ _ _).trans rfl | exact RdL_nil | exact RdL_emp | (simp; done) | (simp; omega)) (by first | assumption | omega | rfl | exact RdL.app (by assumption) _ | exact RdL_h0 rfl (by simp) | exact RdL_hj rfl (by simp) | exact (hp_get0 _ _).trans rfl | exact (hp_getj _ _ _).trans rfl | exact RdL_nil | exact RdL_emp | (simp; done) | (simp; omega))) ?_)); rintro r H1 ⟨hr1, hr2⟩; replace hr1 := hr1.symm; replace hr2 := hr2.symm; subst hr1; subst hr2; try simp (disch := first | omega | assumption | rfl | (exact liveO_setS (by assumption)) | (simp only [go_sem]; first | done | omega)) only [go_sem, reduceIte, reduceCtorEq, Nat.reduceAdd, Nat.reduceMul, Nat.reduceSub, Nat.reduceLeDiff, Nat.lt_irrefl, Nat.reduceEqDiff, Nat.reduceBEq, Int.reduceLE, Int.reduceLT, Int.reduceToNat, w64, eq_self, h.lenm, e, e1.1, e1.2])
      | (clear hK K)
      | fail)
    refine AW_loopV [6, 7, 13, 14, 15, 16, 17, 18, 19, 20, 21, 22, 23, 24, 25, 26] (fun q : Nat × Nat × Hp => [(6, .sl H.length q.2.1 0 q.1 none), (7, .int .i64 (q.1 + 1 : Nat))]) (fun q => H ++ ⟨q.2.1, false, 2, 1, (evenL xs.length p q.1).map (LV.int .i64)⟩ :: q.2.2) (fun q => q.1 ≤ m) (fun q => m - q.1) (0, 0, []) (Nat.zero_le _) ?_ rfl ?_
    · simp only [junkAll, setAll, List.foldl_cons, List.foldl_nil, List.set_cons_succ, List.set_cons_zero, JL, true_or, or_true, and_true, true_and, reduceCtorEq, false_or, or_false, LV.int.injEq, LV.bool.injEq, LV.flt.injEq, LV.sl.injEq, LV.ptr.injEq, eq_self, Int.natCast_add, Int.natCast_one, Int.natCast_zero, Int.ofNat_zero]; rfl
    · intro ⟨k, ver, G⟩ hk K hK
      simp only at hk
      have hl := evenL_len xs.length p k
      have hv := even_bound xs.length p (k + 1) (by omega) (by omega) (by omega)
      simp only [junkAll, setAll, List.foldl_cons, List.foldl_nil, List.set_cons_succ, List.set_cons_zero]
      repeat' (first
        | ((with_reducible refine hK _ _ ?_); clear hK K)
        | (with_reducible refine AW_seq (fun K hK => ?_))
        | (with_reducible refine AW_region tyOk ?_)
        | ((with_reducible refine AOps_cons (fun K hK => ?_)); simp (disch := first | omega | assumption | rfl | (exact liveO_setS (by assumption)) | (simp only [go_sem]; first | done | omega)) only [go_sem, reduceIte, reduceCtorEq, Nat.reduceAdd, Nat.reduceMul, Nat.reduceSub, Nat.reduceLeDiff, Nat.lt_irrefl, Nat.reduceEqDiff, Nat.reduceBEq, Int.reduceLE, Int.reduceLT, Int.reduceToNat, w64, eq_self, h.lenm, w64 _ (show -9223372036854775808 ≤ ((k + 1 : Nat) : Int) * (xs.length : Int) by omega) (by omega), w64 _ (show -9223372036854775808 ≤ (((k + 1 : Nat) : Int) * (xs.length : Int)).tdiv p by omega) (by omega)])
        | ((with_reducible refine AOps_nil ?_); try simp only [thenA, blockA, if_true, if_false, reduceIte])
        | (with_reducible refine AW_block ?_)
        | ((with_reducible refine AW_ret ?_); try simp only [thenA, blockA])
        | ((with_reducible refine AW_skip ?_); try simp only [thenA, blockA])
        | ((with_reducible refine AW_exit ?_); try simp only [thenA, blockA, if_true, if_false, reduceIte, Nat.reduceEqDiff, reduceCtorEq])
        | (refine AW_cond rfl (fun hg => ?_) (fun hg => ?_) <;> first | (exfalso; simp only [reduceCtorEq] at hg; done) | ((try simp only [Bool.not_eq_true', Bool.not_eq_false', decide_eq_true_eq, decide_eq_false_iff_not] at hg); try (exfalso; omega)))
        | (refine And.intro (fun hg => ?_) (fun hg => ?_) <;> (try simp only [Bool.not_eq_true', Bool.not_eq_false'] at hg) <;> simp only [hg] <;> (try simp only [decide_eq_true_eq, decide_eq_false_iff_not] at hg))
        | ((first | (refine FunH.mono (areParts_c _ _ _ _ (by first | assumption | omega | rfl | exact RdL.app (by assumption) _ | exact RdL_h0 rfl (by simp) | exact RdL_hj rfl (by simp) | exact (hp_get0 _ _).trans rfl | exact (hp_getj _ _ _).trans rfl | exact RdL_nil | exact RdL_emp | (simp; done) | (simp; omega)) (by first | assumption | omega | rfl | exact RdL.app (by assumption) _ | exact RdL_h0 rfl (by simp) | exact RdL_hj rfl (by simp) | exact (hp_get0 _ _).trans rfl | exact (hp_getj _ _ _).trans rfl | exact RdL_nil | exact RdL_emp | (simp; done) | (simp; omega))) ?_)); rintro r H1 ⟨hr1, hr2⟩; replace hr1 := hr1.symm; replace hr2 := hr2.symm; subst hr1; subst hr2; try simp (disch := first | omega | assumption | rfl | (exact liveO_setS (by assumption)) | (simp only [go_sem]; first | done | omega)) only [go_sem, reduceIte, reduceCtorEq, Nat.reduceAdd, Nat.reduceMul, Nat.reduceSub, Nat.reduceLeDiff, Nat.lt_irrefl, Nat.reduceEqDiff, Nat.reduceBEq, Int.reduceLE, Int.reduceLT, Int.reduceToNat, w64, eq_self, h.lenm, w64 _ (show -9223372036854775808 ≤ ((k + 1 : Nat) : Int) * (xs.length : Int) by omega) (by omega), w64 _ (show -9223372036854775808 ≤ (((k + 1 : Nat) : Int) * (xs.length : Int)).tdiv p by omega) (by omega)])
        | (clear hK K)
        | fail)
      · refine hK _ _ (k + 1, ver + 1, ?G1) (by (try simp only); omega) (by (try simp only); omega) ?j1 ?h1
        case h1 => (rw [evenL_succ, List.map_append]; rfl)
        case j1 => (simp only [junkAll, setAll, List.foldl_cons, List.foldl_nil, List.set_cons_succ, List.set_cons_zero, JL, true_or, or_true, and_true, true_and, reduceCtorEq, false_or, or_false, LV.int.injEq, LV.bool.injEq, LV.flt.injEq, LV.sl.injEq, LV.ptr.injEq, eq_self, Int.natCast_add, Int.natCast_one, Int.natCast_zero, Int.ofNat_zero])
      · have e2 : k = m := by omega
        subst e2
        simp only [evenL_len]
        refine EndA_rows [some 0] hcl (by first | exact Or.inr rfl | exact Or.inl rfl) (by simp only [Try.results17, resA, aresL, go_sem, reduceIte, reduceCtorEq, Nat.reduceAdd, Nat.reduceMul, Nat.reduceSub, Nat.reduceLeDiff, Nat.lt_irrefl, Nat.reduceEqDiff, Nat.reduceBEq, Int.reduceLE, Int.reduceLT, Int.reduceToNat, w64, eq_self] <;> rfl) (by decide) ?_ ?_ ⟨rfl, rfl⟩
        rotate_left
        · repeat' (first | exact trivial | apply TdT.tup | apply TdT.one | apply TdL.agg | apply TdL.cell | exact TdB.old _ trivial rfl | exact TdB.own 0 0 _ _ _ _ rfl _ rfl rfl | exact TdB.junk _ | exact TdB.old _ (by assumption) (by assumption) | refine And.intro ?_ ?_)
        all_goals (repeat' (first | (with_reducible exact RowOk.none) | ((with_reducible apply RowOk.eq); (exact rfl); rotate_left; (first | (with_reducible exact scal_int _ _) | (with_reducible exact scal_flt _ _) | (with_reducible exact scal_bool _) | (simp [LV.isCell, bnd]; done))) | exact trivial | refine And.intro ?_ ?_))
        all_goals (try rfl)
theorem sEvenCuts_c (lv : LV) (xs : List (Option Nat)) (p : Int) (H : Hp) (h : RdL H lv (xs.map (LV.flt .f32))) (hn : xs.length ≤ 1048576) :
    FunH Try.prog 15 [lv, .int .i64 p] H fun r H' => r = .tup [.sl H.length 0 0 (evenR xs p).length none, .bool (partsB xs p)] ∧ H' = H ++ [⟨0, false, 2, 1, (evenR xs p).map (LV.int .i64)⟩] := by
  unfold evenR
  cases e : partsB xs p
  · (refine FunH_body tyOk Try.func15 rfl (by kernel_rfl) Try.ntmps15 (fun hcl hbd => ?_); simp only [List.length_cons, List.length_nil, Nat.reduceAdd, Nat.reduceSub, List.replicate, List.cons_append, List.nil_append])
    repeat' (first
      | ((with_reducible refine hK _ _ ?_); clear hK K)
      | (with_reducible refine AW_seq (fun K hK => ?_))
      | (with_reducible refine AW_region tyOk ?_)
      | ((with_reducible refine AOps_cons (fun K hK => ?_)); simp (disch := first | omega | assumption | rfl | (exact liveO_setS (by assumption)) | (simp only [go_sem]; first | done | omega)) only [go_sem, reduceIte, reduceCtorEq, Nat.reduceAdd, Nat.reduceMul, Nat.reduceSub, Nat.reduceLeDiff, Nat.lt_irrefl, Nat.reduceEqDiff, Nat.reduceBEq, Int.reduceLE, Int.reduceLT, Int.reduceToNat, w64, eq_self, h.lenm, e])
      | ((with_reducible refine AOps_nil ?_); try simp only [thenA, blockA, if_true, if_false, reduceIte])
      | (with_reducible refine AW_block ?_)
      | ((with_reducible refine AW_ret ?_); try simp only [thenA, blockA])
      | ((with_reducible refine AW_skip ?_); try simp only [thenA, blockA])
      | ((with_reducible refine AW_exit ?_); try simp only [thenA, blockA, if_true, if_false, reduceIte, Nat.reduceEqDiff, reduceCtorEq])
      | (refine AW_cond rfl (fun hg => ?_) (fun hg => ?_) <;> first | (exfalso; simp only [reduceCtorEq] at hg; done) | ((try simp only [Bool.not_eq_true', Bool.not_eq_false', decide_eq_true_eq, decide_eq_false_iff_not] at hg); try (exfalso; omega)))
      | (refine And.intro (fun hg => ?_) (fun hg => ?_) <;> (try simp only [Bool.not_eq_true', Bool.not_eq_false'] at hg) <;> simp only [hg] <;> (try simp only [decide_eq_true_eq, decide_eq_false_iff_not] at hg))
      | ((first | (refine FunH.mono (l05List_c _ _ _ (by first | assumption | omega | rfl | exact RdL.app (by assumption) _ | exact RdL_h0 rfl (by simp) | exact RdL_hj rfl (by simp) | exact (hp_get0 _ _).trans rfl | exact (hp_getj _ _ _).trans rfl | exact RdL_nil | exact RdL_emp | (simp; done) | (simp; omega)) (by first | assumption | omega | rfl | exact RdL.app (by assumption) _ | exact RdL_h0 rfl (by simp) | exact RdL_hj rfl (by simp) | exact (hp_get0 _ _).trans rfl | exact (hp_getj _ _ _).trans rfl | exact RdL_nil | exact RdL_emp | (simp; done) | (simp; omega))) ?_) | (refine FunH.mono (l00In_c _ _ _ _) ?_)); rintro r H1 ⟨hr1, hr2⟩; replace hr1 := hr1.symm; replace hr2 := hr2.symm; subst hr1; subst hr2; try simp (disch := first | omega | assumption | rfl | (exact liveO_setS (by assumption)) | (simp only [go_sem]; first | done | omega)) only [go_sem, reduceIte, reduceCtorEq, Nat.reduceAdd, Nat.reduceMul, Nat.reduceSub, Nat.reduceLeDiff, Nat.lt_irrefl, Nat.reduceEqDiff, Nat.reduceBEq, Int.reduceLE, Int.reduceLT, Int.reduceToNat, w64, eq_self, h.lenm, e])
      | (clear hK K)
      | fail)
    all_goals try (exfalso; unfold partsB at e; simp [*] at e; done)
    all_goals simp only [Bool.false_eq_true, if_false]
    all_goals (
      refine EndA_rows0 [none] hcl (by first | exact Or.inr rfl | exact Or.inl rfl) (by simp only [Try.results15, resA, aresL, go_sem, reduceIte, reduceCtorEq, Nat.reduceAdd, Nat.reduceMul, Nat.reduceSub, Nat.reduceLeDiff, Nat.lt_irrefl, Nat.reduceEqDiff, Nat.reduceBEq, Int.reduceLE, Int.reduceLT, Int.reduceToNat, w64, eq_self] <;> rfl) (by decide) ?_ ?_ ⟨rfl, rfl⟩
      rotate_left
      · repeat' (first | exact trivial | apply TdT.tup | apply TdT.one | apply TdL.agg | apply TdL.cell | exact TdB.old _ trivial rfl | exact TdB.virt 0 rfl | exact TdB.junk _ | exact TdB.old _ (by assumption) (by assumption) | refine And.intro ?_ ?_)
      all_goals (repeat' (first | (with_reducible exact RowOk.none) | ((with_reducible apply RowOk.eq); (exact rfl); rotate_left; (first | (with_reducible exact scal_int _ _) | (with_reducible exact scal_flt _ _) | (with_reducible exact scal_bool _) | (simp [LV.isCell, bnd]; done))) | exact trivial | refine And.intro ?_ ?_))
      all_goals (try rfl))
  · have hb := partsB_iff e
    have e1 : listB xs = true ∧ inB p 1 xs.length = true := by unfold partsB at e; simpa using e
    obtain ⟨m, hm⟩ : ∃ m : Nat, p = ((m + 1 : Nat) : Int) := ⟨(p - 1).toNat, by omega⟩
    have hm2 : (p - 1).toNat = m := by omega
    rw [hm2]
    simp only [if_true]
    (refine FunH_body tyOk Try.func15 rfl (by kernel_rfl) Try.ntmps15 (fun hcl hbd => ?_); simp only [List.length_cons, List.length_nil, Nat.reduceAdd, Nat.reduceSub, List.replicate, List.cons_append, List.nil_append])
    repeat' (first
      | ((with_reducible refine hK _ _ ?_); clear hK K)
      | (with_reducible refine AW_seq (fun K hK => ?_))
      | (with_reducible refine AW_region tyOk ?_)
      | ((with_reducible refine AOps_cons (fun K hK => ?_)); simp (disch := first | omega | assumption | rfl | (exact liveO_setS (by assumption)) | (simp only [go_sem]; first | done | omega)) only [go_sem, reduceIte, reduceCtorEq, Nat.reduceAdd, Nat.reduceMul, Nat.reduceSub, Nat.reduceLeDiff, Nat.lt_irrefl, Nat.reduceEqDiff, Nat.reduceBEq, Int.reduceLE, Int.reduceLT, Int.reduceToNat, w64, eq_self, h.lenm, e, e1.1, e1.2])
      | ((with_reducible refine AOps_nil ?_); try simp only [thenA, blockA, if_true, if_false, reduceIte])
      | (with_reducible refine AW_block ?_)
      | ((with_reducible refine AW_ret ?_); try simp only [thenA, blockA])
      | ((with_reducible refine AW_skip ?_); try simp only [thenA, blockA])
      | ((with_reducible refine AW_exit ?_); try simp only [thenA, blockA, if_true, if_false, reduceIte, Nat.reduceEqDiff, reduceCtorEq])
      | (refine AW_cond rfl (fun hg => ?_) (fun hg => ?_) <;> first | (exfalso; simp only [reduceCtorEq] at hg; done) | ((try simp only [Bool.not_eq_true', Bool.not_eq_false', decide_eq_true_eq, decide_eq_false_iff_not] at hg); try (exfalso; omega)))
      | (refine And.intro (fun hg => ?_) (fun hg => ?_) <;> (try simp only [Bool.not_eq_true', Bool.not_eq_false'] at hg) <;> simp only [hg] <;> (try simp only [decide_eq_true_eq, decide_eq_false_iff_not] at hg))
      | ((first | (refine FunH.mono (l05List_c _ _ _ (by first | assumption | omega | rfl | exact RdL.app (by assumption) _ | exact RdL_h0 rfl (by simp) | exact RdL_hj rfl (by simp) | exact (hp_get0 _ _).trans rfl | exact (hp_getj _ _ _).trans rfl | exact RdL_nil | exact RdL_emp | (simp; done) | (simp; omega)) (by first | assumption | omega | rfl | exact RdL.app (by assumption) _ | exact RdL_h0 rfl (by simp) | exact RdL_hj rfl (by simp) | exact (hp_get0 _ _).trans rfl | exact (hp_getj _ _ _).trans rfl | exact RdL_nil | exact RdL_emp | (simp; done) | (simp; omega))) ?_) | (refine FunH.mono (l00In_c _ _ _ _) ?_)); rintro r H1 ⟨hr1, hr2⟩; replace hr1 := hr1.symm; replace hr2 := hr2.symm; subst hr1; subst hr2; try simp (disch := first | omega | assumption | rfl | (exact liveO_setS (by assumption)) | (simp only [go_sem]; first | done | omega)) only [go_sem, reduceIte, reduceCtorEq, Nat.reduceAdd, Nat.reduceMul, Nat.reduceSub, Nat.reduceLeDiff, Nat.lt_irrefl, Nat.reduceEqDiff, Nat.reduceBEq, Int.reduceLE, Int.reduceLT, Int.reduceToNat, w64, eq_self, h.lenm, e, e1.1, e1.2])
      | (clear hK K)
      | fail)
    refine AW_loopV [7, 8, 21, 22, 23, 24, 25, 26, 27, 28, 29, 30, 31, 32, 33] (fun q : Nat × Nat × Hp => [(7, .sl H.length q.2.1 0 q.1 none), (8, .int .i64 (q.1 + 1 : Nat))]) (fun q => H ++ ⟨q.2.1, false, 2, 1, (evenL xs.length p q.1).map (LV.int .i64)⟩ :: q.2.2) (fun q => q.1 ≤ m) (fun q => m - q.1) (0, 0, []) (Nat.zero_le _) ?_ rfl ?_
    · simp only [junkAll, setAll, List.foldl_cons, List.foldl_nil, List.set_cons_succ, List.set_cons_zero, JL, true_or, or_true, and_true, true_and, reduceCtorEq, false_or, or_false, LV.int.injEq, LV.bool.injEq, LV.flt.injEq, LV.sl.injEq, LV.ptr.injEq, eq_self, Int.natCast_add, Int.natCast_one, Int.natCast_zero, Int.ofNat_zero]; rfl
    · intro ⟨k, ver, G⟩ hk K hK
      simp only at hk
      have hl := evenL_len xs.length p k
      have hv := even_bound xs.length p (k + 1) (by omega) (by omega) (by omega)
      simp only [junkAll, setAll, List.foldl_cons, List.foldl_nil, List.set_cons_succ, List.set_cons_zero]
      repeat' (first
        | ((with_reducible refine hK _ _ ?_); clear hK K)
        | (with_reducible refine AW_seq (fun K hK => ?_))
        | (with_reducible refine AW_region tyOk ?_)
        | ((with_reducible refine AOps_cons (fun K hK => ?_)); simp (disch := first | omega | assumption | rfl | (exact liveO_setS (by assumption)) | (simp only [go_sem]; first | done | omega)) only [go_sem, reduceIte, reduceCtorEq, Nat.reduceAdd, Nat.reduceMul, Nat.reduceSub, Nat.reduceLeDiff, Nat.lt_irrefl, Nat.reduceEqDiff, Nat.reduceBEq, Int.reduceLE, Int.reduceLT, Int.reduceToNat, w64, eq_self, h.lenm, w64 _ (show -9223372036854775808 ≤ ((k + 1 : Nat) : Int) * (xs.length : Int) by omega) (by omega), w64 _ (show -9223372036854775808 ≤ (((k + 1 : Nat) : Int) * (xs.length : Int)).tdiv p by omega) (by omega)])
        | ((with_reducible refine AOps_nil ?_); try simp only [thenA, blockA, if_true, if_false, reduceIte])
        | (with_reducible refine AW_block ?_)
        | ((with_reducible refine AW_ret ?_); try simp only [thenA, blockA])
        | ((with_reducible refine AW_skip ?_); try simp only [thenA, blockA])
        | ((with_reducible refine AW_exit ?_); try simp only [thenA, blockA, if_true, if_false, reduceIte, Nat.reduceEqDiff, reduceCtorEq])
        | (refine AW_cond rfl (fun hg => ?_) (fun hg => ?_) <;> first | (exfalso; simp only [reduceCtorEq] at hg; done) | ((try simp only [Bool.not_eq_true', Bool.not_eq_false', decide_eq_true_eq, decide_eq_false_iff_not] at hg); try (exfalso; omega)))
        | (refine And.intro (fun hg => ?_) (fun hg => ?_) <;> (try simp only [Bool.not_eq_true', Bool.not_eq_false'] at hg) <;> simp only [hg] <;> (try simp only [decide_eq_true_eq, decide_eq_false_iff_not] at hg))
        | ((first | (refine FunH.mono (l05List_c _ _ _ (by first | assumption | omega | rfl | exact RdL.app (by assumption) _ | exact RdL_h0 rfl (by simp) | exact RdL_hj rfl (by simp) | exact (hp_get0 _ _).trans rfl | exact (hp_getj _ _ _).trans rfl | exact RdL_nil | exact RdL_emp | (simp; done) | (simp; omega)) (by first | assumption | omega | rfl | exact RdL.app (by assumption) _ | exact RdL_h0 rfl (by simp) | exact RdL_hj rfl (by simp) | exact (hp_get0 _ _).trans rfl | exact (hp_getj _ _ _).trans rfl | exact RdL_nil | exact RdL_emp | (simp; done) | (simp; omega))) ?_) | (refine FunH.mono (l00In_c _ _ _ _) ?_)); rintro r H1 ⟨hr1, hr2⟩; replace hr1 := hr1.symm; replace hr2 := hr2.symm; subst hr1; subst hr2; try simp (disch := first | omega | assumption | rfl | (exact liveO_setS (by assumption)) | (simp only [go_sem]; first | done | omega)) only [go_sem, reduceIte, reduceCtorEq, Nat.reduceAdd, Nat.reduceMul, Nat.reduceSub, Nat.reduceLeDiff, Nat.lt_irrefl, Nat.reduceEqDiff, Nat.reduceBEq, Int.reduceLE, Int.reduceLT, Int.reduceToNat, w64, eq_self, h.lenm, w64 _ (show -9223372036854775808 ≤ ((k + 1 : Nat) : Int) * (xs.length : Int) by omega) (by omega), w64 _ (show -9223372036854775808 ≤ (((k + 1 : Nat) : Int) * (xs.length : Int)).tdiv p by omega) (by omega)])
        | (clear hK K)
        | fail)
      · refine hK _ _ (k + 1, ver + 1, ?G2) (by (try simp only); omega) (by (try simp only); omega) ?j2 ?h2
        case h2 => (rw [evenL_succ, List.map_append]; rfl)
        case j2 => (simp only [junkAll, setAll, List.foldl_cons, List.foldl_nil, List.set_cons_succ, List.set_cons_zero, JL, true_or, or_true, and_true, true_and, reduceCtorEq, false_or, or_false, LV.int.injEq, LV.bool.injEq, LV.flt.injEq, LV.sl.injEq, LV.ptr.injEq, eq_self, Int.natCast_add, Int.natCast_one, Int.natCast_zero, Int.ofNat_zero])
      · have e2 : k = m := by omega
        subst e2
        simp only [evenL_len]
        refine EndA_rows [some 0] hcl (by first | exact Or.inr rfl | exact Or.inl rfl) (by simp only [Try.results15, resA, aresL, go_sem, reduceIte, reduceCtorEq, Nat.reduceAdd, Nat.reduceMul, Nat.reduceSub, Nat.reduceLeDiff, Nat.lt_irrefl, Nat.reduceEqDiff, Nat.reduceBEq, Int.reduceLE, Int.reduceLT, Int.reduceToNat, w64, eq_self] <;> rfl) (by decide) ?_ ?_ ⟨rfl, rfl⟩
        rotate_left
        · repeat' (first | exact trivial | apply TdT.tup | apply TdT.one | apply TdL.agg | apply TdL.cell | exact TdB.old _ trivial rfl | exact TdB.own 0 0 _ _ _ _ rfl _ rfl rfl | exact TdB.junk _ | exact TdB.old _ (by assumption) (by assumption) | refine And.intro ?_ ?_)
        all_goals (repeat' (first | (with_reducible exact RowOk.none) | ((with_reducible apply RowOk.eq); (exact rfl); rotate_left; (first | (with_reducible exact scal_int _ _) | (with_reducible exact scal_flt _ _) | (with_reducible exact scal_bool _) | (simp [LV.isCell, bnd]; done))) | exact trivial | refine And.intro ?_ ?_))
        all_goals (try rfl)
end Go.Proofs.Ytldbojmonegdbaa
