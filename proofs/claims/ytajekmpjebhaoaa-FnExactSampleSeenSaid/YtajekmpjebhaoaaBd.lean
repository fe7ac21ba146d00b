/- SampleSeen in the abstract machine. -/
import Derived.Test.YtajekmpjebhaoaaBc
namespace Go.Proofs.Ytajekmpjebhaoaa
open Go.RowKit
set_option linter.unusedSimpArgs false
set_option linter.unusedVariables false
set_option maxRecDepth 100000

def bestI (s : Int) : Nat → Nat
  | 0 => 0
  | k + 1 => if hashI (k : Nat) s < hashI (bestI s k : Nat) s then k else bestI s k
theorem bestI_le (s : Int) : ∀ k, bestI s (k + 1) ≤ k
  | 0 => by simp [bestI]
  | k + 1 => by
    have := bestI_le s k
    rw [bestI]; split <;> omega
theorem bestI_le' (s : Int) (k : Nat) : bestI s k ≤ k := by cases k with
  | zero => simp [bestI]
  | succ k => have := bestI_le s k; omega
def seenL (xs : List Int) (s : Int) (k : Nat) : List Int := (List.range k).map fun i => ix xs (bestI s (i + 1))
theorem seenL_len (xs : List Int) (s : Int) (k : Nat) : (seenL xs s k).length = k := by simp [seenL]
theorem seenL_succ (xs : List Int) (s : Int) (k : Nat) : seenL xs s (k + 1) = seenL xs s k ++ [ix xs (bestI s (k + 1))] := by simp [seenL, List.range_succ]
def seenOk (xs : List Int) (s : Int) : Bool := skeysB xs && keyB s
def seenI (xs : List Int) (s : Int) : List Int := if seenOk xs s then seenL xs s xs.length else []

theorem sSampleSeen_c (lv : LV) (xs : List Int) (s : Int) (H : Hp) (h : RdL H lv (xs.map (LV.int .i64))) (hn : xs.length ≤ 1048576) :
    FunH Try.prog 63 [lv, .int .i64 s] H fun r H' => r = .tup [.sl H.length 0 0 (seenI xs s).length none, .bool (seenOk xs s)] ∧ H' = H ++ [⟨0, false, 2, 1, (seenI xs s).map (LV.int .i64)⟩] := by
  unfold seenI
  (refine FunH_body tyOk Try.func63 rfl (by kernel_rfl) Try.ntmps63 (fun hcl hbd => ?_); simp only [List.length_cons, List.length_nil, Nat.reduceAdd, Nat.reduceSub, List.replicate, List.cons_append, List.nil_append])
  repeat' (first
    | ((with_reducible refine hK _ _ ?_); clear hK K)
    | (with_reducible refine AW_seq (fun K hK => ?_))
    | (with_reducible refine AW_region tyOk ?_)
    | ((with_reducible refine AOps_cons (fun K hK => ?_)); simp (disch := first | omega | assumption | rfl | (exact liveO_setS (by assumption)) | (simp only [go_sem]; first | done | omega)) only [go_sem, reduceIte, reduceCtorEq, Nat.reduceAdd, Nat.reduceMul, Nat.reduceSub, Nat.reduceLeDiff, Nat.lt_irrefl, Nat.reduceEqDiff, Nat.reduceBEq, Int.reduceLE, Int.reduceLT, Int.reduceToNat, w64, eq_self, h.lenm])
    | ((with_reducible refine AOps_nil ?_); try simp only [thenA, blockA, if_true, if_false, reduceIte])
    | (with_reducible refine AW_block ?_)
    | ((with_reducible refine AW_ret ?_); try simp only [thenA, blockA])
    | ((with_reducible refine AW_skip ?_); try simp only [thenA, blockA])
    | ((with_reducible refine AW_exit ?_); try simp only [thenA, blockA, if_true, if_false, reduceIte, Nat.reduceEqDiff, reduceCtorEq])
    | (refine AW_cond rfl (fun hg => ?_) (fun hg => ?_) <;> first | (exfalso; simp only [reduceCtorEq] at hg; done) | (try simp only [Bool.not_eq_true', Bool.not_eq_false', decide_eq_true_eq, decide_eq_false_iff_not] at hg))
    | (refine And.intro (fun hg => ?_) (fun hg => ?_) <;> (try simp only [Bool.not_eq_true', Bool.not_eq_false'] at hg) <;> simp only [hg] <;> (try simp only [decide_eq_true_eq, decide_eq_false_iff_not] at hg))
    | ((first | (refine FunH.mono (l06Keys_c _ _ _ (by first | assumption | omega | rfl | exact RdL.app (by assumption) _ | exact RdL_h0 rfl (by simp) | exact RdL_hj rfl (by simp) | exact (hp_get0 _ _).trans rfl | exact (hp_getj _ _ _).trans rfl | exact RdL_nil | exact RdL_emp | (simp; omega)) (by first | assumption | omega | rfl | exact RdL.app (by assumption) _ | exact RdL_h0 rfl (by simp) | exact RdL_hj rfl (by simp) | exact (hp_get0 _ _).trans rfl | exact (hp_getj _ _ _).trans rfl | exact RdL_nil | exact RdL_emp | (simp; omega))) ?_) | (refine FunH.mono (l02Key_c _ _) ?_) | (refine FunH.mono (l02Hash_c _ _ (by first | assumption | omega | rfl | exact RdL.app (by assumption) _ | exact RdL_h0 rfl (by simp) | exact RdL_hj rfl (by simp) | exact (hp_get0 _ _).trans rfl | exact (hp_getj _ _ _).trans rfl | exact RdL_nil | exact RdL_emp | (simp; omega)) (by first | assumption | omega | rfl | exact RdL.app (by assumption) _ | exact RdL_h0 rfl (by simp) | exact RdL_hj rfl (by simp) | exact (hp_get0 _ _).trans rfl | exact (hp_getj _ _ _).trans rfl | exact RdL_nil | exact RdL_emp | (simp; omega)) (by first | assumption | omega | rfl | exact RdL.app (by assumption) _ | exact RdL_h0 rfl (by simp) | exact RdL_hj rfl (by simp) | exact (hp_get0 _ _).trans rfl | exact (hp_getj _ _ _).trans rfl | exact RdL_nil | exact RdL_emp | (simp; omega)) (by first | assumption | omega | rfl | exact RdL.app (by assumption) _ | exact RdL_h0 rfl (by simp) | exact RdL_hj rfl (by simp) | exact (hp_get0 _ _).trans rfl | exact (hp_getj _ _ _).trans rfl | exact RdL_nil | exact RdL_emp | (simp; omega)) _) ?_)); rintro r H1 ⟨hr1, hr2⟩; replace hr1 := hr1.symm; replace hr2 := hr2.symm; subst hr1; subst hr2; try simp (disch := first | omega | assumption | rfl | (exact liveO_setS (by assumption)) | (simp only [go_sem]; first | done | omega)) only [go_sem, reduceIte, reduceCtorEq, Nat.reduceAdd, Nat.reduceMul, Nat.reduceSub, Nat.reduceLeDiff, Nat.lt_irrefl, Nat.reduceEqDiff, Nat.reduceBEq, Int.reduceLE, Int.reduceLT, Int.reduceToNat, w64, eq_self, h.lenm])
    | (clear hK K)
    | fail)
  · have e : seenOk xs s = false := by simp [seenOk, *]
    simp only [e, Bool.false_eq_true, if_false]
    refine EndA_rows0 [none] hcl (by first | exact Or.inr rfl | exact Or.inl rfl) (by simp only [Try.results63, resA, aresL, go_sem, reduceIte, reduceCtorEq, Nat.reduceAdd, Nat.reduceMul, Nat.reduceSub, Nat.reduceLeDiff, Nat.lt_irrefl, Nat.reduceEqDiff, Nat.reduceBEq, Int.reduceLE, Int.reduceLT, Int.reduceToNat, w64, eq_self] <;> rfl) (by decide) ?_ ?_ ⟨rfl, rfl⟩
    rotate_left
    · repeat' (first | exact trivial | apply TdT.tup | apply TdT.one | apply TdL.agg | apply TdL.cell | exact TdB.old _ trivial rfl | exact TdB.virt 0 rfl | exact TdB.junk _ | exact TdB.old _ (by assumption) (by assumption) | refine And.intro ?_ ?_)
    all_goals (repeat' (first | (with_reducible exact RowOk.none) | ((with_reducible apply RowOk.eq); (exact rfl); rotate_left; (first | (with_reducible exact scal_int _ _) | (with_reducible exact scal_flt _ _) | (with_reducible exact scal_bool _) | (simp [LV.isCell, bnd]; done))) | exact trivial | refine And.intro ?_ ?_))
    all_goals (try rfl)
  · refine AW_loopV [6, 7, 8, 18, 19, 20, 21, 22, 23, 24, 25, 26, 27, 28, 29, 30, 31, 32, 33, 34, 35, 36, 37, 38] (fun p : Nat × Nat × Hp => [(6, .int .i64 (bestI s p.1 : Nat)), (7, .sl H.length p.2.1 0 p.1 none), (8, .int .i64 (p.1 : Nat))]) (fun p => H ++ ⟨p.2.1, false, 2, 1, (seenL xs s p.1).map (LV.int .i64)⟩ :: p.2.2) (fun p => p.1 ≤ xs.length) (fun p => xs.length - p.1) (0, 0, []) (Nat.zero_le _) ?_ rfl ?_
    · simp only [junkAll, setAll, List.foldl_cons, List.foldl_nil, List.set_cons_succ, List.set_cons_zero, JL, true_or, or_true, and_true, true_and, reduceCtorEq, false_or, or_false, LV.int.injEq, LV.bool.injEq, LV.flt.injEq, LV.sl.injEq, LV.ptr.injEq, eq_self, Int.natCast_add, Int.natCast_one, Int.natCast_zero, Int.ofNat_zero]; rfl
    · intro ⟨k, ver, G⟩ hk K hK
      simp only at hk
      have hb := bestI_le' s k
      have hl := seenL_len xs s k
      have hk128 : keyB s = true := hg
      rw [keyB_iff] at hk128
      simp only [junkAll, setAll, List.foldl_cons, List.foldl_nil, List.set_cons_succ, List.set_cons_zero]
      repeat' (first
        | ((with_reducible refine hK _ _ ?_); clear hK K)
        | (with_reducible refine AW_seq (fun K hK => ?_))
        | (with_reducible refine AW_region tyOk ?_)
        | ((with_reducible refine AOps_cons (fun K hK => ?_)); simp (disch := first | omega | assumption | rfl | (exact liveO_setS (by assumption)) | (simp only [go_sem]; first | done | omega)) only [go_sem, reduceIte, reduceCtorEq, Nat.reduceAdd, Nat.reduceMul, Nat.reduceSub, Nat.reduceLeDiff, Nat.lt_irrefl, Nat.reduceEqDiff, Nat.reduceBEq, Int.reduceLE, Int.reduceLT, Int.reduceToNat, w64, eq_self, h.lenm, h.idxmA, h.ldmA])
        | ((with_reducible refine AOps_nil ?_); try simp only [thenA, blockA, if_true, if_false, reduceIte])
        | (with_reducible refine AW_block ?_)
        | ((with_reducible refine AW_ret ?_); try simp only [thenA, blockA])
        | ((with_reducible refine AW_skip ?_); try simp only [thenA, blockA])
        | ((with_reducible refine AW_exit ?_); try simp only [thenA, blockA, if_true, if_false, reduceIte, Nat.reduceEqDiff, reduceCtorEq])
        | (refine AW_cond rfl (fun hg => ?_) (fun hg => ?_) <;> first | (exfalso; simp only [reduceCtorEq] at hg; done) | (try simp only [Bool.not_eq_true', Bool.not_eq_false', decide_eq_true_eq, decide_eq_false_iff_not] at hg))
        | (refine And.intro (fun hg => ?_) (fun hg => ?_) <;> (try simp only [Bool.not_eq_true', Bool.not_eq_false'] at hg) <;> simp only [hg] <;> (try simp only [decide_eq_true_eq, decide_eq_false_iff_not] at hg))
        | ((first | (refine FunH.mono (l06Keys_c _ _ _ (by first | assumption | omega | rfl | exact RdL.app (by assumption) _ | exact RdL_h0 rfl (by simp) | exact RdL_hj rfl (by simp) | exact (hp_get0 _ _).trans rfl | exact (hp_getj _ _ _).trans rfl | exact RdL_nil | exact RdL_emp | (simp; omega)) (by first | assumption | omega | rfl | exact RdL.app (by assumption) _ | exact RdL_h0 rfl (by simp) | exact RdL_hj rfl (by simp) | exact (hp_get0 _ _).trans rfl | exact (hp_getj _ _ _).trans rfl | exact RdL_nil | exact RdL_emp | (simp; omega))) ?_) | (refine FunH.mono (l02Key_c _ _) ?_) | (refine FunH.mono (l02Hash_c _ _ (by first | assumption | omega | rfl | exact RdL.app (by assumption) _ | exact RdL_h0 rfl (by simp) | exact RdL_hj rfl (by simp) | exact (hp_get0 _ _).trans rfl | exact (hp_getj _ _ _).trans rfl | exact RdL_nil | exact RdL_emp | (simp; omega)) (by first | assumption | omega | rfl | exact RdL.app (by assumption) _ | exact RdL_h0 rfl (by simp) | exact RdL_hj rfl (by simp) | exact (hp_get0 _ _).trans rfl | exact (hp_getj _ _ _).trans rfl | exact RdL_nil | exact RdL_emp | (simp; omega)) (by first | assumption | omega | rfl | exact RdL.app (by assumption) _ | exact RdL_h0 rfl (by simp) | exact RdL_hj rfl (by simp) | exact (hp_get0 _ _).trans rfl | exact (hp_getj _ _ _).trans rfl | exact RdL_nil | exact RdL_emp | (simp; omega)) (by first | assumption | omega | rfl | exact RdL.app (by assumption) _ | exact RdL_h0 rfl (by simp) | exact RdL_hj rfl (by simp) | exact (hp_get0 _ _).trans rfl | exact (hp_getj _ _ _).trans rfl | exact RdL_nil | exact RdL_emp | (simp; omega)) _) ?_)); rintro r H1 ⟨hr1, hr2⟩; replace hr1 := hr1.symm; replace hr2 := hr2.symm; subst hr1; subst hr2; try simp (disch := first | omega | assumption | rfl | (exact liveO_setS (by assumption)) | (simp only [go_sem]; first | done | omega)) only [go_sem, reduceIte, reduceCtorEq, Nat.reduceAdd, Nat.reduceMul, Nat.reduceSub, Nat.reduceLeDiff, Nat.lt_irrefl, Nat.reduceEqDiff, Nat.reduceBEq, Int.reduceLE, Int.reduceLT, Int.reduceToNat, w64, eq_self, h.lenm, h.idxmA, h.ldmA])
        | (clear hK K)
        | fail)
      · have e1 : bestI s (k + 1) = k := by simp only [bestI, hg, if_true]
        refine hK _ _ (k + 1, ver + 1, ?G1) (by (try simp only); omega) (by (try simp only); omega) ?j1 ?h1
        case h1 => (rw [seenL_succ, e1, List.map_append]; rfl)
        case j1 => (simp only [junkAll, setAll, List.foldl_cons, List.foldl_nil, List.set_cons_succ, List.set_cons_zero, JL, true_or, or_true, and_true, true_and, reduceCtorEq, false_or, or_false, LV.int.injEq, LV.bool.injEq, LV.flt.injEq, LV.sl.injEq, LV.ptr.injEq, eq_self, Int.natCast_add, Int.natCast_one, Int.natCast_zero, Int.ofNat_zero]; simp only [e1])
      · have e1 : bestI s (k + 1) = bestI s k := by simp only [bestI, hg, if_false]
        refine hK _ _ (k + 1, ver + 1, ?G2) (by (try simp only); omega) (by (try simp only); omega) ?j2 ?h2
        case h2 => (rw [seenL_succ, e1, List.map_append]; rfl)
        case j2 => (simp only [junkAll, setAll, List.foldl_cons, List.foldl_nil, List.set_cons_succ, List.set_cons_zero, JL, true_or, or_true, and_true, true_and, reduceCtorEq, false_or, or_false, LV.int.injEq, LV.bool.injEq, LV.flt.injEq, LV.sl.injEq, LV.ptr.injEq, eq_self, Int.natCast_add, Int.natCast_one, Int.natCast_zero, Int.ofNat_zero]; simp only [e1])
      · have e1 : seenOk xs s = true := by simp [seenOk, *]
        simp only [e1, if_true]
        have e2 : k = xs.length := by omega
        subst e2
        simp only [seenL_len]
        refine EndA_rows [some 0] hcl (by first | exact Or.inr rfl | exact Or.inl rfl) (by simp only [Try.results63, resA, aresL, go_sem, reduceIte, reduceCtorEq, Nat.reduceAdd, Nat.reduceMul, Nat.reduceSub, Nat.reduceLeDiff, Nat.lt_irrefl, Nat.reduceEqDiff, Nat.reduceBEq, Int.reduceLE, Int.reduceLT, Int.reduceToNat, w64, eq_self] <;> rfl) (by decide) ?_ ?_ ⟨rfl, rfl⟩
        rotate_left
        · repeat' (first | exact trivial | apply TdT.tup | apply TdT.one | apply TdL.agg | apply TdL.cell | exact TdB.old _ trivial rfl | exact TdB.own 0 0 _ _ _ _ rfl _ rfl rfl | exact TdB.junk _ | exact TdB.old _ (by assumption) (by assumption) | refine And.intro ?_ ?_)
        all_goals (repeat' (first | (with_reducible exact RowOk.none) | ((with_reducible apply RowOk.eq); (exact rfl); rotate_left; (first | (with_reducible exact scal_int _ _) | (with_reducible exact scal_flt _ _) | (with_reducible exact scal_bool _) | (simp [LV.isCell, bnd]; done))) | exact trivial | refine And.intro ?_ ?_))
        all_goals (try rfl)
  · have e : seenOk xs s = false := by simp [seenOk, *]
    simp only [e, Bool.false_eq_true, if_false]
    refine EndA_rows0 [none] hcl (by first | exact Or.inr rfl | exact Or.inl rfl) (by simp only [Try.results63, resA, aresL, go_sem, reduceIte, reduceCtorEq, Nat.reduceAdd, Nat.reduceMul, Nat.reduceSub, Nat.reduceLeDiff, Nat.lt_irrefl, Nat.reduceEqDiff, Nat.reduceBEq, Int.reduceLE, Int.reduceLT, Int.reduceToNat, w64, eq_self] <;> rfl) (by decide) ?_ ?_ ⟨rfl, rfl⟩
    rotate_left
    · repeat' (first | exact trivial | apply TdT.tup | apply TdT.one | apply TdL.agg | apply TdL.cell | exact TdB.old _ trivial rfl | exact TdB.virt 0 rfl | exact TdB.junk _ | exact TdB.old _ (by assumption) (by assumption) | refine And.intro ?_ ?_)
    all_goals (repeat' (first | (with_reducible exact RowOk.none) | ((with_reducible apply RowOk.eq); (exact rfl); rotate_left; (first | (with_reducible exact scal_int _ _) | (with_reducible exact scal_flt _ _) | (with_reducible exact scal_bool _) | (simp [LV.isCell, bnd]; done))) | exact trivial | refine And.intro ?_ ?_))
    all_goals (try rfl)
theorem iSampleSeen_c (lv : LV) (xs : List Int) (s : Int) (H : Hp) (h : RdL H lv (xs.map (LV.int .i64))) (hn : xs.length ≤ 1048576) :
    FunH Try.prog 64 [lv, .int .i64 s] H fun r H' => r = .tup [.sl H.length 0 0 (seenI xs s).length none, .bool (seenOk xs s)] ∧ H' = H ++ [⟨0, false, 2, 1, (seenI xs s).map (LV.int .i64)⟩] := by
  unfold seenI
  (refine FunH_body tyOk Try.func64 rfl (by kernel_rfl) Try.ntmps64 (fun hcl hbd => ?_); simp only [List.length_cons, List.length_nil, Nat.reduceAdd, Nat.reduceSub, List.replicate, List.cons_append, List.nil_append])
  repeat' (first
    | ((with_reducible refine hK _ _ ?_); clear hK K)
    | (with_reducible refine AW_seq (fun K hK => ?_))
    | (with_reducible refine AW_region tyOk ?_)
    | ((with_reducible refine AOps_cons (fun K hK => ?_)); simp (disch := first | omega | assumption | rfl | (exact liveO_setS (by assumption)) | (simp only [go_sem]; first | done | omega)) only [go_sem, reduceIte, reduceCtorEq, Nat.reduceAdd, Nat.reduceMul, Nat.reduceSub, Nat.reduceLeDiff, Nat.lt_irrefl, Nat.reduceEqDiff, Nat.reduceBEq, Int.reduceLE, Int.reduceLT, Int.reduceToNat, w64, eq_self, h.lenm])
    | ((with_reducible refine AOps_nil ?_); try simp only [thenA, blockA, if_true, if_false, reduceIte])
    | (with_reducible refine AW_block ?_)
    | ((with_reducible refine AW_ret ?_); try simp only [thenA, blockA])
    | ((with_reducible refine AW_skip ?_); try simp only [thenA, blockA])
    | ((with_reducible refine AW_exit ?_); try simp only [thenA, blockA, if_true, if_false, reduceIte, Nat.reduceEqDiff, reduceCtorEq])
    | (refine AW_cond rfl (fun hg => ?_) (fun hg => ?_) <;> first | (exfalso; simp only [reduceCtorEq] at hg; done) | (try simp only [Bool.not_eq_true', Bool.not_eq_false', decide_eq_true_eq, decide_eq_false_iff_not] at hg))
    | (refine And.intro (fun hg => ?_) (fun hg => ?_) <;> (try simp only [Bool.not_eq_true', Bool.not_eq_false'] at hg) <;> simp only [hg] <;> (try simp only [decide_eq_true_eq, decide_eq_false_iff_not] at hg))
    | ((first | (refine FunH.mono (IsKey_c _ _) ?_) | (refine FunH.mono (hash_c _ _ (by first | assumption | omega | rfl | exact RdL.app (by assumption) _ | exact RdL_h0 rfl (by simp) | exact RdL_hj rfl (by simp) | exact (hp_get0 _ _).trans rfl | exact (hp_getj _ _ _).trans rfl | exact RdL_nil | exact RdL_emp | (simp; omega)) (by first | assumption | omega | rfl | exact RdL.app (by assumption) _ | exact RdL_h0 rfl (by simp) | exact RdL_hj rfl (by simp) | exact (hp_get0 _ _).trans rfl | exact (hp_getj _ _ _).trans rfl | exact RdL_nil | exact RdL_emp | (simp; omega)) (by first | assumption | omega | rfl | exact RdL.app (by assumption) _ | exact RdL_h0 rfl (by simp) | exact RdL_hj rfl (by simp) | exact (hp_get0 _ _).trans rfl | exact (hp_getj _ _ _).trans rfl | exact RdL_nil | exact RdL_emp | (simp; omega)) (by first | assumption | omega | rfl | exact RdL.app (by assumption) _ | exact RdL_h0 rfl (by simp) | exact RdL_hj rfl (by simp) | exact (hp_get0 _ _).trans rfl | exact (hp_getj _ _ _).trans rfl | exact RdL_nil | exact RdL_emp | (simp; omega)) _) ?_) | (refine FunH.mono (areStreamKeys_c _ _ _ (by first | assumption | omega | rfl | exact RdL.app (by assumption) _ | exact RdL_h0 rfl (by simp) | exact RdL_hj rfl (by simp) | exact (hp_get0 _ _).trans rfl | exact (hp_getj _ _ _).trans rfl | exact RdL_nil | exact RdL_emp | (simp; omega)) (by first | assumption | omega | rfl | exact RdL.app (by assumption) _ | exact RdL_h0 rfl (by simp) | exact RdL_hj rfl (by simp) | exact (hp_get0 _ _).trans rfl | exact (hp_getj _ _ _).trans rfl | exact RdL_nil | exact RdL_emp | (simp; omega))) ?_)); rintro r H1 ⟨hr1, hr2⟩; replace hr1 := hr1.symm; replace hr2 := hr2.symm; subst hr1; subst hr2; try simp (disch := first | omega | assumption | rfl | (exact liveO_setS (by assumption)) | (simp only [go_sem]; first | done | omega)) only [go_sem, reduceIte, reduceCtorEq, Nat.reduceAdd, Nat.reduceMul, Nat.reduceSub, Nat.reduceLeDiff, Nat.lt_irrefl, Nat.reduceEqDiff, Nat.reduceBEq, Int.reduceLE, Int.reduceLT, Int.reduceToNat, w64, eq_self, h.lenm])
    | (clear hK K)
    | fail)
  · have e : seenOk xs s = false := by simp [seenOk, *]
    simp only [e, Bool.false_eq_true, if_false]
    refine EndA_rows0 [none] hcl (by first | exact Or.inr rfl | exact Or.inl rfl) (by simp only [Try.results64, resA, aresL, go_sem, reduceIte, reduceCtorEq, Nat.reduceAdd, Nat.reduceMul, Nat.reduceSub, Nat.reduceLeDiff, Nat.lt_irrefl, Nat.reduceEqDiff, Nat.reduceBEq, Int.reduceLE, Int.reduceLT, Int.reduceToNat, w64, eq_self] <;> rfl) (by decide) ?_ ?_ ⟨rfl, rfl⟩
    rotate_left
    · repeat' (first | exact trivial | apply TdT.tup | apply TdT.one | apply TdL.agg | apply TdL.cell | exact TdB.old _ trivial rfl | exact TdB.virt 0 rfl | exact TdB.junk _ | exact TdB.old _ (by assumption) (by assumption) | refine And.intro ?_ ?_)
    all_goals (repeat' (first | (with_reducible exact RowOk.none) | ((with_reducible apply RowOk.eq); (exact rfl); rotate_left; (first | (with_reducible exact scal_int _ _) | (with_reducible exact scal_flt _ _) | (with_reducible exact scal_bool _) | (simp [LV.isCell, bnd]; done))) | exact trivial | refine And.intro ?_ ?_))
    all_goals (try rfl)
  · refine AW_loopV [6, 7, 8, 20, 21, 22, 23, 24, 25, 26, 27, 28, 29, 30, 31, 32, 33, 34, 35, 36, 37, 38] (fun p : Nat × Nat × Hp => [(6, .sl H.length p.2.1 0 p.1 none), (7, .int .i64 (bestI s p.1 : Nat)), (20, .int .i64 (p.1 : Nat))]) (fun p => H ++ ⟨p.2.1, false, 2, 1, (seenL xs s p.1).map (LV.int .i64)⟩ :: p.2.2) (fun p => p.1 ≤ xs.length) (fun p => xs.length - p.1) (0, 0, []) (Nat.zero_le _) ?_ rfl ?_
    · simp only [junkAll, setAll, List.foldl_cons, List.foldl_nil, List.set_cons_succ, List.set_cons_zero, JL, true_or, or_true, and_true, true_and, reduceCtorEq, false_or, or_false, LV.int.injEq, LV.bool.injEq, LV.flt.injEq, LV.sl.injEq, LV.ptr.injEq, eq_self, Int.natCast_add, Int.natCast_one, Int.natCast_zero, Int.ofNat_zero]; rfl
    · intro ⟨k, ver, G⟩ hk K hK
      simp only at hk
      have hb := bestI_le' s k
      have hl := seenL_len xs s k
      have hk128 : keyB s = true := hg
      rw [keyB_iff] at hk128
      simp only [junkAll, setAll, List.foldl_cons, List.foldl_nil, List.set_cons_succ, List.set_cons_zero]
      repeat' (first
        | ((with_reducible refine hK _ _ ?_); clear hK K)
        | (with_reducible refine AW_seq (fun K hK => ?_))
        | (with_reducible refine AW_region tyOk ?_)
        | ((with_reducible refine AOps_cons (fun K hK => ?_)); simp (disch := first | omega | assumption | rfl | (exact liveO_setS (by assumption)) | (simp only [go_sem]; first | done | omega)) only [go_sem, reduceIte, reduceCtorEq, Nat.reduceAdd, Nat.reduceMul, Nat.reduceSub, Nat.reduceLeDiff, Nat.lt_irrefl, Nat.reduceEqDiff, Nat.reduceBEq, Int.reduceLE, Int.reduceLT, Int.reduceToNat, w64, eq_self, h.lenm, h.idxmA, h.ldmA])
        | ((with_reducible refine AOps_nil ?_); try simp only [thenA, blockA, if_true, if_false, reduceIte])
        | (with_reducible refine AW_block ?_)
        | ((with_reducible refine AW_ret ?_); try simp only [thenA, blockA])
        | ((with_reducible refine AW_skip ?_); try simp only [thenA, blockA])
        | ((with_reducible refine AW_exit ?_); try simp only [thenA, blockA, if_true, if_false, reduceIte, Nat.reduceEqDiff, reduceCtorEq])
        | (refine AW_cond rfl (fun hg => ?_) (fun hg => ?_) <;> first | (exfalso; simp only [reduceCtorEq] at hg; done) | (try simp only [Bool.not_eq_true', Bool.not_eq_false', decide_eq_true_eq, decide_eq_false_iff_not] at hg))
        | (refine And.intro (fun hg => ?_) (fun hg => ?_) <;> (try simp only [Bool.not_eq_true', Bool.not_eq_false'] at hg) <;> simp only [hg] <;> (try simp only [decide_eq_true_eq, decide_eq_false_iff_not] at hg))
        | ((first | (refine FunH.mono (IsKey_c _ _) ?_) | (refine FunH.mono (hash_c _ _ (by first | assumption | omega | rfl | exact RdL.app (by assumption) _ | exact RdL_h0 rfl (by simp) | exact RdL_hj rfl (by simp) | exact (hp_get0 _ _).trans rfl | exact (hp_getj _ _ _).trans rfl | exact RdL_nil | exact RdL_emp | (simp; omega)) (by first | assumption | omega | rfl | exact RdL.app (by assumption) _ | exact RdL_h0 rfl (by simp) | exact RdL_hj rfl (by simp) | exact (hp_get0 _ _).trans rfl | exact (hp_getj _ _ _).trans rfl | exact RdL_nil | exact RdL_emp | (simp; omega)) (by first | assumption | omega | rfl | exact RdL.app (by assumption) _ | exact RdL_h0 rfl (by simp) | exact RdL_hj rfl (by simp) | exact (hp_get0 _ _).trans rfl | exact (hp_getj _ _ _).trans rfl | exact RdL_nil | exact RdL_emp | (simp; omega)) (by first | assumption | omega | rfl | exact RdL.app (by assumption) _ | exact RdL_h0 rfl (by simp) | exact RdL_hj rfl (by simp) | exact (hp_get0 _ _).trans rfl | exact (hp_getj _ _ _).trans rfl | exact RdL_nil | exact RdL_emp | (simp; omega)) _) ?_) | (refine FunH.mono (areStreamKeys_c _ _ _ (by first | assumption | omega | rfl | exact RdL.app (by assumption) _ | exact RdL_h0 rfl (by simp) | exact RdL_hj rfl (by simp) | exact (hp_get0 _ _).trans rfl | exact (hp_getj _ _ _).trans rfl | exact RdL_nil | exact RdL_emp | (simp; omega)) (by first | assumption | omega | rfl | exact RdL.app (by assumption) _ | exact RdL_h0 rfl (by simp) | exact RdL_hj rfl (by simp) | exact (hp_get0 _ _).trans rfl | exact (hp_getj _ _ _).trans rfl | exact RdL_nil | exact RdL_emp | (simp; omega))) ?_)); rintro r H1 ⟨hr1, hr2⟩; replace hr1 := hr1.symm; replace hr2 := hr2.symm; subst hr1; subst hr2; try simp (disch := first | omega | assumption | rfl | (exact liveO_setS (by assumption)) | (simp only [go_sem]; first | done | omega)) only [go_sem, reduceIte, reduceCtorEq, Nat.reduceAdd, Nat.reduceMul, Nat.reduceSub, Nat.reduceLeDiff, Nat.lt_irrefl, Nat.reduceEqDiff, Nat.reduceBEq, Int.reduceLE, Int.reduceLT, Int.reduceToNat, w64, eq_self, h.lenm, h.idxmA, h.ldmA])
        | (clear hK K)
        | fail)
      · have e1 : bestI s (k + 1) = k := by simp only [bestI, hg, if_true]
        refine hK _ _ (k + 1, ver + 1, ?G3) (by (try simp only); omega) (by (try simp only); omega) ?j3 ?h3
        case h3 => (rw [seenL_succ, e1, List.map_append]; rfl)
        case j3 => (simp only [junkAll, setAll, List.foldl_cons, List.foldl_nil, List.set_cons_succ, List.set_cons_zero, JL, true_or, or_true, and_true, true_and, reduceCtorEq, false_or, or_false, LV.int.injEq, LV.bool.injEq, LV.flt.injEq, LV.sl.injEq, LV.ptr.injEq, eq_self, Int.natCast_add, Int.natCast_one, Int.natCast_zero, Int.ofNat_zero]; simp only [e1])
      · have e1 : bestI s (k + 1) = bestI s k := by simp only [bestI, hg, if_false]
        refine hK _ _ (k + 1, ver + 1, ?G4) (by (try simp only); omega) (by (try simp only); omega) ?j4 ?h4
        case h4 => (rw [seenL_succ, e1, List.map_append]; rfl)
        case j4 => (simp only [junkAll, setAll, List.foldl_cons, List.foldl_nil, List.set_cons_succ, List.set_cons_zero, JL, true_or, or_true, and_true, true_and, reduceCtorEq, false_or, or_false, LV.int.injEq, LV.bool.injEq, LV.flt.injEq, LV.sl.injEq, LV.ptr.injEq, eq_self, Int.natCast_add, Int.natCast_one, Int.natCast_zero, Int.ofNat_zero]; simp only [e1])
      · have e1 : seenOk xs s = true := by simp [seenOk, *]
        simp only [e1, if_true]
        have e2 : k = xs.length := by omega
        subst e2
        simp only [seenL_len]
        refine EndA_rows [some 0] hcl (by first | exact Or.inr rfl | exact Or.inl rfl) (by simp only [Try.results64, resA, aresL, go_sem, reduceIte, reduceCtorEq, Nat.reduceAdd, Nat.reduceMul, Nat.reduceSub, Nat.reduceLeDiff, Nat.lt_irrefl, Nat.reduceEqDiff, Nat.reduceBEq, Int.reduceLE, Int.reduceLT, Int.reduceToNat, w64, eq_self] <;> rfl) (by decide) ?_ ?_ ⟨rfl, rfl⟩
        rotate_left
        · repeat' (first | exact trivial | apply TdT.tup | apply TdT.one | apply TdL.agg | apply TdL.cell | exact TdB.old _ trivial rfl | exact TdB.own 0 0 _ _ _ _ rfl _ rfl rfl | exact TdB.junk _ | exact TdB.old _ (by assumption) (by assumption) | refine And.intro ?_ ?_)
        all_goals (repeat' (first | (with_reducible exact RowOk.none) | ((with_reducible apply RowOk.eq); (exact rfl); rotate_left; (first | (with_reducible exact scal_int _ _) | (with_reducible exact scal_flt _ _) | (with_reducible exact scal_bool _) | (simp [LV.isCell, bnd]; done))) | exact trivial | refine And.intro ?_ ?_))
        all_goals (try rfl)
  · have e : seenOk xs s = false := by simp [seenOk, *]
    simp only [e, Bool.false_eq_true, if_false]
    refine EndA_rows0 [none] hcl (by first | exact Or.inr rfl | exact Or.inl rfl) (by simp only [Try.results64, resA, aresL, go_sem, reduceIte, reduceCtorEq, Nat.reduceAdd, Nat.reduceMul, Nat.reduceSub, Nat.reduceLeDiff, Nat.lt_irrefl, Nat.reduceEqDiff, Nat.reduceBEq, Int.reduceLE, Int.reduceLT, Int.reduceToNat, w64, eq_self] <;> rfl) (by decide) ?_ ?_ ⟨rfl, rfl⟩
    rotate_left
    · repeat' (first | exact trivial | apply TdT.tup | apply TdT.one | apply TdL.agg | apply TdL.cell | exact TdB.old _ trivial rfl | exact TdB.virt 0 rfl | exact TdB.junk _ | exact TdB.old _ (by assumption) (by assumption) | refine And.intro ?_ ?_)
    all_goals (repeat' (first | (with_reducible exact RowOk.none) | ((with_reducible apply RowOk.eq); (exact rfl); rotate_left; (first | (with_reducible exact scal_int _ _) | (with_reducible exact scal_flt _ _) | (with_reducible exact scal_bool _) | (simp [LV.isCell, bnd]; done))) | exact trivial | refine And.intro ?_ ?_))
    all_goals (try rfl)
end Go.Proofs.Ytajekmpjebhaoaa
