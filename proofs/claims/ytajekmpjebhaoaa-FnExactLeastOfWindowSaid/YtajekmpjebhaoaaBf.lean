/- Windows of lists of integers, in the abstract machine. -/
import Derived.Test.YtajekmpjebhaoaaBc
namespace Go.Proofs.Ytajekmpjebhaoaa
open Go.RowKit
set_option linter.unusedSimpArgs false
set_option linter.unusedVariables false
set_option maxRecDepth 100000

theorem l00Max_c (a b : Int) (H : Hp) : FunH Try.prog 110 [.int .i64 a, .int .i64 b] H fun r H' => r = .int .i64 (max a b) ∧ H' = H := by
  (refine FunH_body tyOk Try.func110 rfl (by kernel_rfl) Try.ntmps110 (fun hcl hbd => ?_); simp only [List.length_cons, List.length_nil, Nat.reduceAdd, Nat.reduceSub, List.replicate, List.cons_append, List.nil_append])
  repeat' (first
    | ((with_reducible refine hK _ _ ?_); clear hK K)
    | (with_reducible refine AW_seq (fun K hK => ?_))
    | (with_reducible refine AW_region tyOk ?_)
    | ((with_reducible refine AOps_cons (fun K hK => ?_)); simp (disch := first | omega | assumption | rfl | (exact liveO_setS (by assumption)) | (simp only [go_sem]; first | done | omega)) only [go_sem, reduceIte, reduceCtorEq, Nat.reduceAdd, Nat.reduceMul, Nat.reduceSub, Nat.reduceLeDiff, Nat.lt_irrefl, Nat.reduceEqDiff, Nat.reduceBEq, Int.reduceLE, Int.reduceLT, Int.reduceToNat, w64, eq_self])
    | ((with_reducible refine AOps_nil ?_); try simp only [thenA, blockA, if_true, if_false, reduceIte])
    | (with_reducible refine AW_block ?_)
    | ((with_reducible refine AW_ret ?_); try simp only [thenA, blockA])
    | ((with_reducible refine AW_skip ?_); try simp only [thenA, blockA])
    | ((with_reducible refine AW_exit ?_); try simp only [thenA, blockA, if_true, if_false, reduceIte, Nat.reduceEqDiff, reduceCtorEq])
    | (refine AW_cond rfl (fun hg => ?_) (fun hg => ?_) <;> first | (exfalso; simp only [reduceCtorEq] at hg; done) | ((try simp only [Bool.not_eq_true', Bool.not_eq_false', decide_eq_true_eq, decide_eq_false_iff_not] at hg); try (exfalso; omega)))
    | (refine And.intro (fun hg => ?_) (fun hg => ?_) <;> (try simp only [Bool.not_eq_true', Bool.not_eq_false'] at hg) <;> simp only [hg] <;> (try simp only [decide_eq_true_eq, decide_eq_false_iff_not] at hg))
    | (clear hK K)
    | fail)
  all_goals (first | refine EndA_same (by first | exact Or.inr rfl | exact Or.inl rfl) (by simp only [Try.results110, resA, aresL, go_sem, reduceIte, reduceCtorEq, Nat.reduceAdd, Nat.reduceMul, Nat.reduceSub, Nat.reduceLeDiff, Nat.lt_irrefl, Nat.reduceEqDiff, Nat.reduceBEq, Int.reduceLE, Int.reduceLT, Int.reduceToNat, w64, eq_self] <;> rfl) ?_ | refine EndA_cut hcl (by first | exact Or.inr rfl | exact Or.inl rfl) (by simp only [Try.results110, resA, aresL, go_sem, reduceIte, reduceCtorEq, Nat.reduceAdd, Nat.reduceMul, Nat.reduceSub, Nat.reduceLeDiff, Nat.lt_irrefl, Nat.reduceEqDiff, Nat.reduceBEq, Int.reduceLE, Int.reduceLT, Int.reduceToNat, w64, eq_self] <;> rfl) rfl ?_)
  all_goals (refine ⟨congrArg (LV.int .i64) ?_, rfl⟩; omega)
theorem l00Min_c (a b : Int) (H : Hp) : FunH Try.prog 114 [.int .i64 a, .int .i64 b] H fun r H' => r = .int .i64 (min a b) ∧ H' = H := by
  (refine FunH_body tyOk Try.func114 rfl (by kernel_rfl) Try.ntmps114 (fun hcl hbd => ?_); simp only [List.length_cons, List.length_nil, Nat.reduceAdd, Nat.reduceSub, List.replicate, List.cons_append, List.nil_append])
  repeat' (first
    | ((with_reducible refine hK _ _ ?_); clear hK K)
    | (with_reducible refine AW_seq (fun K hK => ?_))
    | (with_reducible refine AW_region tyOk ?_)
    | ((with_reducible refine AOps_cons (fun K hK => ?_)); simp (disch := first | omega | assumption | rfl | (exact liveO_setS (by assumption)) | (simp only [go_sem]; first | done | omega)) only [go_sem, reduceIte, reduceCtorEq, Nat.reduceAdd, Nat.reduceMul, Nat.reduceSub, Nat.reduceLeDiff, Nat.lt_irrefl, Nat.reduceEqDiff, Nat.reduceBEq, Int.reduceLE, Int.reduceLT, Int.reduceToNat, w64, eq_self])
    | ((with_reducible refine AOps_nil ?_); try simp only [thenA, blockA, if_true, if_false, reduceIte])
    | (with_reducible refine AW_block ?_)
    | ((with_reducible refine AW_ret ?_); try simp only [thenA, blockA])
    | ((with_reducible refine AW_skip ?_); try simp only [thenA, blockA])
    | ((with_reducible refine AW_exit ?_); try simp only [thenA, blockA, if_true, if_false, reduceIte, Nat.reduceEqDiff, reduceCtorEq])
    | (refine AW_cond rfl (fun hg => ?_) (fun hg => ?_) <;> first | (exfalso; simp only [reduceCtorEq] at hg; done) | ((try simp only [Bool.not_eq_true', Bool.not_eq_false', decide_eq_true_eq, decide_eq_false_iff_not] at hg); try (exfalso; omega)))
    | (refine And.intro (fun hg => ?_) (fun hg => ?_) <;> (try simp only [Bool.not_eq_true', Bool.not_eq_false'] at hg) <;> simp only [hg] <;> (try simp only [decide_eq_true_eq, decide_eq_false_iff_not] at hg))
    | (clear hK K)
    | fail)
  all_goals (first | refine EndA_same (by first | exact Or.inr rfl | exact Or.inl rfl) (by simp only [Try.results114, resA, aresL, go_sem, reduceIte, reduceCtorEq, Nat.reduceAdd, Nat.reduceMul, Nat.reduceSub, Nat.reduceLeDiff, Nat.lt_irrefl, Nat.reduceEqDiff, Nat.reduceBEq, Int.reduceLE, Int.reduceLT, Int.reduceToNat, w64, eq_self] <;> rfl) ?_ | refine EndA_cut hcl (by first | exact Or.inr rfl | exact Or.inl rfl) (by simp only [Try.results114, resA, aresL, go_sem, reduceIte, reduceCtorEq, Nat.reduceAdd, Nat.reduceMul, Nat.reduceSub, Nat.reduceLeDiff, Nat.lt_irrefl, Nat.reduceEqDiff, Nat.reduceBEq, Int.reduceLE, Int.reduceLT, Int.reduceToNat, w64, eq_self] <;> rfl) rfl ?_)
  all_goals (refine ⟨congrArg (LV.int .i64) ?_, rfl⟩; omega)
theorem areWithin1_c (x lo hi : Int) (p q : LV) (H : Hp) (hp : hgetP H p = some (.int .i64 lo)) (hq : hgetP H q = some (.int .i64 hi)) : FunH Try.prog 138 [.int .i64 x, p, q] H fun r H' => r = .bool (!inB x lo hi) ∧ H' = H := by
  (refine FunH_body tyOk Try.func138 rfl (by kernel_rfl) Try.ntmps138 (fun hcl hbd => ?_); simp only [List.length_cons, List.length_nil, Nat.reduceAdd, Nat.reduceSub, List.replicate, List.cons_append, List.nil_append])
  repeat' (first
    | ((with_reducible refine hK _ _ ?_); clear hK K)
    | (with_reducible refine AW_seq (fun K hK => ?_))
    | (with_reducible refine AW_region tyOk ?_)
    | ((with_reducible refine AOps_cons (fun K hK => ?_)); simp (disch := first | omega | assumption | rfl | (exact liveO_setS (by assumption)) | (simp only [go_sem]; first | done | omega)) only [go_sem, reduceIte, reduceCtorEq, Nat.reduceAdd, Nat.reduceMul, Nat.reduceSub, Nat.reduceLeDiff, Nat.lt_irrefl, Nat.reduceEqDiff, Nat.reduceBEq, Int.reduceLE, Int.reduceLT, Int.reduceToNat, w64, eq_self, hp, hq])
    | ((with_reducible refine AOps_nil ?_); try simp only [thenA, blockA, if_true, if_false, reduceIte])
    | (with_reducible refine AW_block ?_)
    | ((with_reducible refine AW_ret ?_); try simp only [thenA, blockA])
    | ((with_reducible refine AW_skip ?_); try simp only [thenA, blockA])
    | ((with_reducible refine AW_exit ?_); try simp only [thenA, blockA, if_true, if_false, reduceIte, Nat.reduceEqDiff, reduceCtorEq])
    | (refine AW_cond rfl (fun hg => ?_) (fun hg => ?_) <;> first | (exfalso; simp only [reduceCtorEq] at hg; done) | ((try simp only [Bool.not_eq_true', Bool.not_eq_false', decide_eq_true_eq, decide_eq_false_iff_not] at hg); try (exfalso; omega)))
    | (refine And.intro (fun hg => ?_) (fun hg => ?_) <;> (try simp only [Bool.not_eq_true', Bool.not_eq_false'] at hg) <;> simp only [hg] <;> (try simp only [decide_eq_true_eq, decide_eq_false_iff_not] at hg))
    | ((first | (refine FunH.mono (within_c _ _ _ _) ?_)); rintro r H1 ⟨hr1, hr2⟩; replace hr1 := hr1.symm; replace hr2 := hr2.symm; subst hr1; subst hr2; try simp (disch := first | omega | assumption | rfl | (exact liveO_setS (by assumption)) | (simp only [go_sem]; first | done | omega)) only [go_sem, reduceIte, reduceCtorEq, Nat.reduceAdd, Nat.reduceMul, Nat.reduceSub, Nat.reduceLeDiff, Nat.lt_irrefl, Nat.reduceEqDiff, Nat.reduceBEq, Int.reduceLE, Int.reduceLT, Int.reduceToNat, w64, eq_self, hp, hq])
    | (clear hK K)
    | fail)
  all_goals (first | refine EndA_same (by first | exact Or.inr rfl | exact Or.inl rfl) (by simp only [Try.results138, resA, aresL, go_sem, reduceIte, reduceCtorEq, Nat.reduceAdd, Nat.reduceMul, Nat.reduceSub, Nat.reduceLeDiff, Nat.lt_irrefl, Nat.reduceEqDiff, Nat.reduceBEq, Int.reduceLE, Int.reduceLT, Int.reduceToNat, w64, eq_self] <;> rfl) ?_ | refine EndA_cut hcl (by first | exact Or.inr rfl | exact Or.inl rfl) (by simp only [Try.results138, resA, aresL, go_sem, reduceIte, reduceCtorEq, Nat.reduceAdd, Nat.reduceMul, Nat.reduceSub, Nat.reduceLeDiff, Nat.lt_irrefl, Nat.reduceEqDiff, Nat.reduceBEq, Int.reduceLE, Int.reduceLT, Int.reduceToNat, w64, eq_self] <;> rfl) rfl ?_)
  all_goals exact ⟨rfl, rfl⟩
theorem areWithin_c (lv : LV) (xs : List Int) (lo hi : Int) (H : Hp) (h : RdL H lv (xs.map (LV.int .i64))) (hn : xs.length ≤ 17592186044416) : FunH Try.prog 98 [lv, .int .i64 lo, .int .i64 hi] H fun r H' => r = .bool (xs.all fun x => inB x lo hi) ∧ H' = H := by
  (refine FunH_body tyOk Try.func98 rfl (by kernel_rfl) Try.ntmps98 (fun hcl hbd => ?_); simp only [List.length_cons, List.length_nil, Nat.reduceAdd, Nat.reduceSub, List.replicate, List.cons_append, List.nil_append])
  repeat' (first
    | ((with_reducible refine hK _ _ ?_); clear hK K)
    | (with_reducible refine AW_seq (fun K hK => ?_))
    | (with_reducible refine AW_region tyOk ?_)
    | ((with_reducible refine AOps_cons (fun K hK => ?_)); simp (disch := first | omega | assumption | rfl | (exact liveO_setS (by assumption)) | (simp only [go_sem]; first | done | omega)) only [go_sem, reduceIte, reduceCtorEq, Nat.reduceAdd, Nat.reduceMul, Nat.reduceSub, Nat.reduceLeDiff, Nat.lt_irrefl, Nat.reduceEqDiff, Nat.reduceBEq, Int.reduceLE, Int.reduceLT, Int.reduceToNat, w64, eq_self, any_not, List.size_toArray])
    | ((with_reducible refine AOps_nil ?_); try simp only [thenA, blockA, if_true, if_false, reduceIte])
    | (with_reducible refine AW_block ?_)
    | ((with_reducible refine AW_ret ?_); try simp only [thenA, blockA])
    | ((with_reducible refine AW_skip ?_); try simp only [thenA, blockA])
    | ((with_reducible refine AW_exit ?_); try simp only [thenA, blockA, if_true, if_false, reduceIte, Nat.reduceEqDiff, reduceCtorEq])
    | (refine AW_cond rfl (fun hg => ?_) (fun hg => ?_) <;> first | (exfalso; simp only [reduceCtorEq] at hg; done) | ((try simp only [Bool.not_eq_true', Bool.not_eq_false', decide_eq_true_eq, decide_eq_false_iff_not] at hg); try (exfalso; omega)))
    | (refine And.intro (fun hg => ?_) (fun hg => ?_) <;> (try simp only [Bool.not_eq_true', Bool.not_eq_false'] at hg) <;> simp only [hg] <;> (try simp only [decide_eq_true_eq, decide_eq_false_iff_not] at hg))
    | ((first | (refine FunH.mono (ContainsFunc_int64_c _ xs (fun x => !inB x lo hi) _ _ _ (h.app _) (fun x _ => areWithin1_c x lo hi _ _ _ (by simp [hgetP, hget]) (by simp [hgetP, hget])) hn) ?_) | (refine FunH.mono (ContainsFunc_int64_c _ _ _ _ _ _ (by first | assumption | omega | rfl | exact RdL.app (by assumption) _ | exact RdL_h0 rfl (by simp) | exact RdL_hj rfl (by simp) | exact (hp_get0 _ _).trans rfl | exact (hp_getj _ _ _).trans rfl | exact RdL_nil | exact RdL_emp | (simp; done) | (simp; omega)) (by first | assumption | omega | rfl | exact RdL.app (by assumption) _ | exact RdL_h0 rfl (by simp) | exact RdL_hj rfl (by simp) | exact (hp_get0 _ _).trans rfl | exact (hp_getj _ _ _).trans rfl | exact RdL_nil | exact RdL_emp | (simp; done) | (simp; omega)) (by first | assumption | omega | rfl | exact RdL.app (by assumption) _ | exact RdL_h0 rfl (by simp) | exact RdL_hj rfl (by simp) | exact (hp_get0 _ _).trans rfl | exact (hp_getj _ _ _).trans rfl | exact RdL_nil | exact RdL_emp | (simp; done) | (simp; omega))) ?_) | (refine FunH.mono (areWithin1_c _ _ _ _ _ _ (by first | assumption | omega | rfl | exact RdL.app (by assumption) _ | exact RdL_h0 rfl (by simp) | exact RdL_hj rfl (by simp) | exact (hp_get0 _ _).trans rfl | exact (hp_getj _ _ _).trans rfl | exact RdL_nil | exact RdL_emp | (simp; done) | (simp; omega)) (by first | assumption | omega | rfl | exact RdL.app (by assumption) _ | exact RdL_h0 rfl (by simp) | exact RdL_hj rfl (by simp) | exact (hp_get0 _ _).trans rfl | exact (hp_getj _ _ _).trans rfl | exact RdL_nil | exact RdL_emp | (simp; done) | (simp; omega))) ?_)); rintro r H1 ⟨hr1, hr2⟩; replace hr1 := hr1.symm; replace hr2 := hr2.symm; subst hr1; subst hr2; try simp (disch := first | omega | assumption | rfl | (exact liveO_setS (by assumption)) | (simp only [go_sem]; first | done | omega)) only [go_sem, reduceIte, reduceCtorEq, Nat.reduceAdd, Nat.reduceMul, Nat.reduceSub, Nat.reduceLeDiff, Nat.lt_irrefl, Nat.reduceEqDiff, Nat.reduceBEq, Int.reduceLE, Int.reduceLT, Int.reduceToNat, w64, eq_self, any_not, List.size_toArray])
    | (clear hK K)
    | fail)
  all_goals (refine EndA_cut hcl (by first | exact Or.inr rfl | exact Or.inl rfl) (by simp only [Try.results98, resA, aresL, go_sem, reduceIte, reduceCtorEq, Nat.reduceAdd, Nat.reduceMul, Nat.reduceSub, Nat.reduceLeDiff, Nat.lt_irrefl, Nat.reduceEqDiff, Nat.reduceBEq, Int.reduceLE, Int.reduceLT, Int.reduceToNat, w64, eq_self] <;> rfl) rfl ?_)
  all_goals exact ⟨rfl, rfl⟩
def fromW (i : Nat) (l : Int) : Nat := (max 0 ((i : Int) - l + 1)).toNat
theorem fromW_eq (i : Nat) (l : Int) : max 0 ((i : Int) - l + 1) = (fromW i l : Nat) := by unfold fromW; omega
theorem RdL.subm {α : Type} {f : α → LV} {xs : List α} {H : Hp} {x : LV} (h : RdL H x (xs.map f)) {l m : Nat} (h1 : l + m ≤ xs.length) (hp : 0 < m) : RdL H (subOf x l m) (((xs.drop l).take m).map f) := by
  have := h.sub (l := l) (m := m) (by simpa using h1) hp
  rwa [← List.map_drop, ← List.map_take] at this
theorem RdL.isSl {α : Type} {f : α → LV} {xs : List α} {H : Hp} {x : LV} (h : RdL H x (xs.map f)) {i : Nat} (hi : i < xs.length) : ∃ id ver off cap, x = .sl id ver off xs.length cap := by
  rcases h.cases with ⟨h0, _⟩ | ⟨id, ver, off, cap, rfl, _⟩
  · have : xs = [] := by simpa using h0
    subst this; simp at hi
  · exact ⟨id, ver, off, cap, by simp⟩
theorem slice_last {lv : LV} {xs : List Int} {H : Hp} (h : RdL H lv (xs.map (LV.int .i64))) {i : Nat} (hi : i < xs.length) (l : Int) (hl0 : 1 ≤ l) :
    asliceS ⟨.int .i64, 1, 8, [.int .i64 0]⟩ H lv (some (.int .i64 (fromW i l : Nat))) (some (.int .i64 ((i : Int) + 1))) none = some (subOf lv (fromW i l) (i + 1 - fromW i l)) := by
  have e1 := fromW_eq i l
  rw [h.slice rfl (by omega) (by omega) (by simp; omega)]
  have e2 : ((i : Int) + 1).toNat = i + 1 := by omega
  rw [e2, Int.toNat_natCast]
theorem ifW (i : Nat) (l : Int) : (if (i : Int) - l + 1 > 0 then (i : Int) - l + 1 else 0) = (fromW i l : Nat) := by unfold fromW; split <;> omega
theorem l06Last_c (lv : LV) (xs : List Int) (i : Nat) (l : Int) (H : Hp) (h : RdL H lv (xs.map (LV.int .i64))) (hi : i < xs.length) (hn : xs.length ≤ 1048576) (hl0 : 1 ≤ l) (hl1 : l ≤ 128) :
    FunH Try.prog 109 [lv, .int .i64 (i : Nat), .int .i64 l] H fun r H' => r = subOf lv (fromW i l) (i + 1 - fromW i l) ∧ H' = H := by
  have e1 := fromW_eq i l
  have hls := slice_last h hi l hl0
  obtain ⟨id, ver, off, cap, rfl⟩ := h.isSl hi
  (refine FunH_body tyOk Try.func109 rfl (by kernel_rfl) Try.ntmps109 (fun hcl hbd => ?_); simp only [List.length_cons, List.length_nil, Nat.reduceAdd, Nat.reduceSub, List.replicate, List.cons_append, List.nil_append])
  repeat' (first
    | ((with_reducible refine hK _ _ ?_); clear hK K)
    | (with_reducible refine AW_seq (fun K hK => ?_))
    | (with_reducible refine AW_region tyOk ?_)
    | ((with_reducible refine AOps_cons (fun K hK => ?_)); simp (disch := first | omega | assumption | rfl | (exact liveO_setS (by assumption)) | (simp only [go_sem]; first | done | omega)) only [go_sem, reduceIte, reduceCtorEq, Nat.reduceAdd, Nat.reduceMul, Nat.reduceSub, Nat.reduceLeDiff, Nat.lt_irrefl, Nat.reduceEqDiff, Nat.reduceBEq, Int.reduceLE, Int.reduceLT, Int.reduceToNat, w64, eq_self, e1, hls])
    | ((with_reducible refine AOps_nil ?_); try simp only [thenA, blockA, if_true, if_false, reduceIte])
    | (with_reducible refine AW_block ?_)
    | ((with_reducible refine AW_ret ?_); try simp only [thenA, blockA])
    | ((with_reducible refine AW_skip ?_); try simp only [thenA, blockA])
    | ((with_reducible refine AW_exit ?_); try simp only [thenA, blockA, if_true, if_false, reduceIte, Nat.reduceEqDiff, reduceCtorEq])
    | (refine AW_cond rfl (fun hg => ?_) (fun hg => ?_) <;> first | (exfalso; simp only [reduceCtorEq] at hg; done) | ((try simp only [Bool.not_eq_true', Bool.not_eq_false', decide_eq_true_eq, decide_eq_false_iff_not] at hg); try (exfalso; omega)))
    | (refine And.intro (fun hg => ?_) (fun hg => ?_) <;> (try simp only [Bool.not_eq_true', Bool.not_eq_false'] at hg) <;> simp only [hg] <;> (try simp only [decide_eq_true_eq, decide_eq_false_iff_not] at hg))
    | ((first | (refine FunH.mono (l00Max_c _ _ _) ?_)); rintro r H1 ⟨hr1, hr2⟩; replace hr1 := hr1.symm; replace hr2 := hr2.symm; subst hr1; subst hr2; try simp (disch := first | omega | assumption | rfl | (exact liveO_setS (by assumption)) | (simp only [go_sem]; first | done | omega)) only [go_sem, reduceIte, reduceCtorEq, Nat.reduceAdd, Nat.reduceMul, Nat.reduceSub, Nat.reduceLeDiff, Nat.lt_irrefl, Nat.reduceEqDiff, Nat.reduceBEq, Int.reduceLE, Int.reduceLT, Int.reduceToNat, w64, eq_self, e1, hls])
    | (clear hK K)
    | fail)
  all_goals (first | refine EndA_same (by first | exact Or.inr rfl | exact Or.inl rfl) (by simp only [Try.results109, resA, aresL, go_sem, reduceIte, reduceCtorEq, Nat.reduceAdd, Nat.reduceMul, Nat.reduceSub, Nat.reduceLeDiff, Nat.lt_irrefl, Nat.reduceEqDiff, Nat.reduceBEq, Int.reduceLE, Int.reduceLT, Int.reduceToNat, w64, eq_self, subOf] <;> rfl) ?_ | refine EndA_cut hcl (by first | exact Or.inr rfl | exact Or.inl rfl) (by simp only [Try.results109, resA, aresL, go_sem, reduceIte, reduceCtorEq, Nat.reduceAdd, Nat.reduceMul, Nat.reduceSub, Nat.reduceLeDiff, Nat.lt_irrefl, Nat.reduceEqDiff, Nat.reduceBEq, Int.reduceLE, Int.reduceLT, Int.reduceToNat, w64, eq_self, subOf] <;> rfl) rfl ?_)
  all_goals exact ⟨rfl, rfl⟩
theorem lastOnes_c (lv : LV) (xs : List Int) (i : Nat) (l : Int) (H : Hp) (h : RdL H lv (xs.map (LV.int .i64))) (hi : i < xs.length) (hn : xs.length ≤ 1048576) (hl0 : 1 ≤ l) (hl1 : l ≤ 128) :
    FunH Try.prog 147 [lv, .int .i64 (i : Nat), .int .i64 l] H fun r H' => r = subOf lv (fromW i l) (i + 1 - fromW i l) ∧ H' = H := by
  have hls := slice_last h hi l hl0
  obtain ⟨id, ver, off, cap, rfl⟩ := h.isSl hi
  (refine FunH_body tyOk Try.func147 rfl (by kernel_rfl) Try.ntmps147 (fun hcl hbd => ?_); simp only [List.length_cons, List.length_nil, Nat.reduceAdd, Nat.reduceSub, List.replicate, List.cons_append, List.nil_append])
  repeat' (first
    | ((with_reducible refine hK _ _ ?_); clear hK K)
    | (with_reducible refine AW_seq (fun K hK => ?_))
    | (with_reducible refine AW_region tyOk ?_)
    | ((with_reducible refine AOps_cons (fun K hK => ?_)); simp (disch := first | omega | assumption | rfl | (exact liveO_setS (by assumption)) | (simp only [go_sem]; first | done | omega)) only [go_sem, reduceIte, reduceCtorEq, Nat.reduceAdd, Nat.reduceMul, Nat.reduceSub, Nat.reduceLeDiff, Nat.lt_irrefl, Nat.reduceEqDiff, Nat.reduceBEq, Int.reduceLE, Int.reduceLT, Int.reduceToNat, w64, eq_self, aminmax, ifW, hls])
    | ((with_reducible refine AOps_nil ?_); try simp only [thenA, blockA, if_true, if_false, reduceIte])
    | (with_reducible refine AW_block ?_)
    | ((with_reducible refine AW_ret ?_); try simp only [thenA, blockA])
    | ((with_reducible refine AW_skip ?_); try simp only [thenA, blockA])
    | ((with_reducible refine AW_exit ?_); try simp only [thenA, blockA, if_true, if_false, reduceIte, Nat.reduceEqDiff, reduceCtorEq])
    | (refine AW_cond rfl (fun hg => ?_) (fun hg => ?_) <;> first | (exfalso; simp only [reduceCtorEq] at hg; done) | ((try simp only [Bool.not_eq_true', Bool.not_eq_false', decide_eq_true_eq, decide_eq_false_iff_not] at hg); try (exfalso; omega)))
    | (refine And.intro (fun hg => ?_) (fun hg => ?_) <;> (try simp only [Bool.not_eq_true', Bool.not_eq_false'] at hg) <;> simp only [hg] <;> (try simp only [decide_eq_true_eq, decide_eq_false_iff_not] at hg))
    | (clear hK K)
    | fail)
  all_goals (first | refine EndA_same (by first | exact Or.inr rfl | exact Or.inl rfl) (by simp only [Try.results147, resA, aresL, go_sem, reduceIte, reduceCtorEq, Nat.reduceAdd, Nat.reduceMul, Nat.reduceSub, Nat.reduceLeDiff, Nat.lt_irrefl, Nat.reduceEqDiff, Nat.reduceBEq, Int.reduceLE, Int.reduceLT, Int.reduceToNat, w64, eq_self, subOf] <;> rfl) ?_ | refine EndA_cut hcl (by first | exact Or.inr rfl | exact Or.inl rfl) (by simp only [Try.results147, resA, aresL, go_sem, reduceIte, reduceCtorEq, Nat.reduceAdd, Nat.reduceMul, Nat.reduceSub, Nat.reduceLeDiff, Nat.lt_irrefl, Nat.reduceEqDiff, Nat.reduceBEq, Int.reduceLE, Int.reduceLT, Int.reduceToNat, w64, eq_self, subOf] <;> rfl) rfl ?_)
  all_goals exact ⟨rfl, rfl⟩
/-- The greatest and the least. -/
def foldM (m : Int → Int → Int) (xs : List Int) : Int := (xs.drop 1).foldl m (ix xs 0)
theorem foldM_take (m : Int → Int → Int) (xs : List Int) (k : Nat) (h : k < xs.length) (h0 : 0 < k) : ((xs.take (k + 1)).drop 1).foldl m (ix xs 0) = m (((xs.take k).drop 1).foldl m (ix xs 0)) (ix xs k) := by
  rw [take_ix xs k h, List.drop_append_of_le_length (by simp; omega), List.foldl_append]
  rfl
theorem slicesMax_c (lv : LV) (xs : List Int) (H : Hp) (h : RdL H lv (xs.map (LV.int .i64))) (h0 : 0 < xs.length) (hn : xs.length ≤ 17592186044416) : FunH Try.prog 113 [lv] H fun r H' => r = .int .i64 (foldM max xs) ∧ H' = H := by
  (refine FunH_body tyOk Try.func113 rfl (by kernel_rfl) Try.ntmps113 (fun hcl hbd => ?_); simp only [List.length_cons, List.length_nil, Nat.reduceAdd, Nat.reduceSub, List.replicate, List.cons_append, List.nil_append])
  repeat' (first
    | ((with_reducible refine hK _ _ ?_); clear hK K)
    | (with_reducible refine AW_seq (fun K hK => ?_))
    | (with_reducible refine AW_region tyOk ?_)
    | ((with_reducible refine AOps_cons (fun K hK => ?_)); simp (disch := first | omega | assumption | rfl | (exact liveO_setS (by assumption)) | (simp only [go_sem]; first | done | omega)) only [go_sem, reduceIte, reduceCtorEq, Nat.reduceAdd, Nat.reduceMul, Nat.reduceSub, Nat.reduceLeDiff, Nat.lt_irrefl, Nat.reduceEqDiff, Nat.reduceBEq, Int.reduceLE, Int.reduceLT, Int.reduceToNat, w64, eq_self, h.lenm, h.idxm, h.ldm])
    | ((with_reducible refine AOps_nil ?_); try simp only [thenA, blockA, if_true, if_false, reduceIte])
    | (with_reducible refine AW_block ?_)
    | ((with_reducible refine AW_ret ?_); try simp only [thenA, blockA])
    | ((with_reducible refine AW_skip ?_); try simp only [thenA, blockA])
    | ((with_reducible refine AW_exit ?_); try simp only [thenA, blockA, if_true, if_false, reduceIte, Nat.reduceEqDiff, reduceCtorEq])
    | (refine AW_cond rfl (fun hg => ?_) (fun hg => ?_) <;> first | (exfalso; simp only [reduceCtorEq] at hg; done) | ((try simp only [Bool.not_eq_true', Bool.not_eq_false', decide_eq_true_eq, decide_eq_false_iff_not] at hg); try (exfalso; omega)))
    | (refine And.intro (fun hg => ?_) (fun hg => ?_) <;> (try simp only [Bool.not_eq_true', Bool.not_eq_false'] at hg) <;> simp only [hg] <;> (try simp only [decide_eq_true_eq, decide_eq_false_iff_not] at hg))
    | (clear hK K)
    | fail)
  refine AW_loopV [3, 4, 12, 13, 14, 15, 16, 17, 18, 19, 20, 21, 22, 23] (fun k : Nat => [(3, .int .i64 (((xs.take k).drop 1).foldl max (ix xs 0))), (4, .int .i64 (k : Nat))]) (fun _ => H) (fun k => 1 ≤ k ∧ k ≤ xs.length) (fun k => xs.length - k) 1 ⟨Nat.le_refl _, h0⟩ ?_ rfl ?_
  · simp only [junkAll, setAll, List.foldl_cons, List.foldl_nil, List.set_cons_succ, List.set_cons_zero, JL, true_or, or_true, and_true, true_and, reduceCtorEq, false_or, or_false, LV.int.injEq, LV.bool.injEq, LV.flt.injEq, LV.sl.injEq, LV.ptr.injEq, eq_self, Int.natCast_add, Int.natCast_one, Int.natCast_zero, Int.ofNat_zero]
    cases xs with
    | nil => simp at h0
    | cons a l => simp
  · intro k ⟨hk1, hk⟩ K hK
    simp only [junkAll, setAll, List.foldl_cons, List.foldl_nil, List.set_cons_succ, List.set_cons_zero]
    repeat' (first
      | ((with_reducible refine hK _ _ ?_); clear hK K)
      | (with_reducible refine AW_seq (fun K hK => ?_))
      | (with_reducible refine AW_region tyOk ?_)
      | ((with_reducible refine AOps_cons (fun K hK => ?_)); simp (disch := first | omega | assumption | rfl | (exact liveO_setS (by assumption)) | (simp only [go_sem]; first | done | omega)) only [go_sem, reduceIte, reduceCtorEq, Nat.reduceAdd, Nat.reduceMul, Nat.reduceSub, Nat.reduceLeDiff, Nat.lt_irrefl, Nat.reduceEqDiff, Nat.reduceBEq, Int.reduceLE, Int.reduceLT, Int.reduceToNat, w64, eq_self, h.lenm, h.idxm, h.ldm, aminmax])
      | ((with_reducible refine AOps_nil ?_); try simp only [thenA, blockA, if_true, if_false, reduceIte])
      | (with_reducible refine AW_block ?_)
      | ((with_reducible refine AW_ret ?_); try simp only [thenA, blockA])
      | ((with_reducible refine AW_skip ?_); try simp only [thenA, blockA])
      | ((with_reducible refine AW_exit ?_); try simp only [thenA, blockA, if_true, if_false, reduceIte, Nat.reduceEqDiff, reduceCtorEq])
      | (refine AW_cond rfl (fun hg => ?_) (fun hg => ?_) <;> first | (exfalso; simp only [reduceCtorEq] at hg; done) | ((try simp only [Bool.not_eq_true', Bool.not_eq_false', decide_eq_true_eq, decide_eq_false_iff_not] at hg); try (exfalso; omega)))
      | (refine And.intro (fun hg => ?_) (fun hg => ?_) <;> (try simp only [Bool.not_eq_true', Bool.not_eq_false'] at hg) <;> simp only [hg] <;> (try simp only [decide_eq_true_eq, decide_eq_false_iff_not] at hg))
      | (clear hK K)
      | fail)
    · refine hK _ _ (k + 1) (by (try simp only); omega) (by (try simp only); omega) ?j7 ?h7
      case h7 => (rfl)
      case j7 => (simp only [junkAll, setAll, List.foldl_cons, List.foldl_nil, List.set_cons_succ, List.set_cons_zero, JL, true_or, or_true, and_true, true_and, reduceCtorEq, false_or, or_false, LV.int.injEq, LV.bool.injEq, LV.flt.injEq, LV.sl.injEq, LV.ptr.injEq, eq_self, Int.natCast_add, Int.natCast_one, Int.natCast_zero, Int.ofNat_zero]; rw [foldM_take _ _ _ (by omega) (by omega)]; (first | omega | (split <;> omega)))
    · all_goals (first | refine EndA_same (by first | exact Or.inr rfl | exact Or.inl rfl) (by simp only [Try.results113, resA, aresL, go_sem, reduceIte, reduceCtorEq, Nat.reduceAdd, Nat.reduceMul, Nat.reduceSub, Nat.reduceLeDiff, Nat.lt_irrefl, Nat.reduceEqDiff, Nat.reduceBEq, Int.reduceLE, Int.reduceLT, Int.reduceToNat, w64, eq_self] <;> rfl) ?_ | refine EndA_cut hcl (by first | exact Or.inr rfl | exact Or.inl rfl) (by simp only [Try.results113, resA, aresL, go_sem, reduceIte, reduceCtorEq, Nat.reduceAdd, Nat.reduceMul, Nat.reduceSub, Nat.reduceLeDiff, Nat.lt_irrefl, Nat.reduceEqDiff, Nat.reduceBEq, Int.reduceLE, Int.reduceLT, Int.reduceToNat, w64, eq_self] <;> rfl) rfl ?_)
      have e : k = xs.length := by omega
      subst e
      exact ⟨by rw [List.take_length]; rfl, rfl⟩
theorem slicesMin_c (lv : LV) (xs : List Int) (H : Hp) (h : RdL H lv (xs.map (LV.int .i64))) (h0 : 0 < xs.length) (hn : xs.length ≤ 17592186044416) : FunH Try.prog 116 [lv] H fun r H' => r = .int .i64 (foldM min xs) ∧ H' = H := by
  (refine FunH_body tyOk Try.func116 rfl (by kernel_rfl) Try.ntmps116 (fun hcl hbd => ?_); simp only [List.length_cons, List.length_nil, Nat.reduceAdd, Nat.reduceSub, List.replicate, List.cons_append, List.nil_append])
  repeat' (first
    | ((with_reducible refine hK _ _ ?_); clear hK K)
    | (with_reducible refine AW_seq (fun K hK => ?_))
    | (with_reducible refine AW_region tyOk ?_)
    | ((with_reducible refine AOps_cons (fun K hK => ?_)); simp (disch := first | omega | assumption | rfl | (exact liveO_setS (by assumption)) | (simp only [go_sem]; first | done | omega)) only [go_sem, reduceIte, reduceCtorEq, Nat.reduceAdd, Nat.reduceMul, Nat.reduceSub, Nat.reduceLeDiff, Nat.lt_irrefl, Nat.reduceEqDiff, Nat.reduceBEq, Int.reduceLE, Int.reduceLT, Int.reduceToNat, w64, eq_self, h.lenm, h.idxm, h.ldm])
    | ((with_reducible refine AOps_nil ?_); try simp only [thenA, blockA, if_true, if_false, reduceIte])
    | (with_reducible refine AW_block ?_)
    | ((with_reducible refine AW_ret ?_); try simp only [thenA, blockA])
    | ((with_reducible refine AW_skip ?_); try simp only [thenA, blockA])
    | ((with_reducible refine AW_exit ?_); try simp only [thenA, blockA, if_true, if_false, reduceIte, Nat.reduceEqDiff, reduceCtorEq])
    | (refine AW_cond rfl (fun hg => ?_) (fun hg => ?_) <;> first | (exfalso; simp only [reduceCtorEq] at hg; done) | ((try simp only [Bool.not_eq_true', Bool.not_eq_false', decide_eq_true_eq, decide_eq_false_iff_not] at hg); try (exfalso; omega)))
    | (refine And.intro (fun hg => ?_) (fun hg => ?_) <;> (try simp only [Bool.not_eq_true', Bool.not_eq_false'] at hg) <;> simp only [hg] <;> (try simp only [decide_eq_true_eq, decide_eq_false_iff_not] at hg))
    | (clear hK K)
    | fail)
  refine AW_loopV [3, 4, 12, 13, 14, 15, 16, 17, 18, 19, 20, 21, 22, 23] (fun k : Nat => [(3, .int .i64 (((xs.take k).drop 1).foldl min (ix xs 0))), (4, .int .i64 (k : Nat))]) (fun _ => H) (fun k => 1 ≤ k ∧ k ≤ xs.length) (fun k => xs.length - k) 1 ⟨Nat.le_refl _, h0⟩ ?_ rfl ?_
  · simp only [junkAll, setAll, List.foldl_cons, List.foldl_nil, List.set_cons_succ, List.set_cons_zero, JL, true_or, or_true, and_true, true_and, reduceCtorEq, false_or, or_false, LV.int.injEq, LV.bool.injEq, LV.flt.injEq, LV.sl.injEq, LV.ptr.injEq, eq_self, Int.natCast_add, Int.natCast_one, Int.natCast_zero, Int.ofNat_zero]
    cases xs with
    | nil => simp at h0
    | cons a l => simp
  · intro k ⟨hk1, hk⟩ K hK
    simp only [junkAll, setAll, List.foldl_cons, List.foldl_nil, List.set_cons_succ, List.set_cons_zero]
    repeat' (first
      | ((with_reducible refine hK _ _ ?_); clear hK K)
      | (with_reducible refine AW_seq (fun K hK => ?_))
      | (with_reducible refine AW_region tyOk ?_)
      | ((with_reducible refine AOps_cons (fun K hK => ?_)); simp (disch := first | omega | assumption | rfl | (exact liveO_setS (by assumption)) | (simp only [go_sem]; first | done | omega)) only [go_sem, reduceIte, reduceCtorEq, Nat.reduceAdd, Nat.reduceMul, Nat.reduceSub, Nat.reduceLeDiff, Nat.lt_irrefl, Nat.reduceEqDiff, Nat.reduceBEq, Int.reduceLE, Int.reduceLT, Int.reduceToNat, w64, eq_self, h.lenm, h.idxm, h.ldm, aminmax])
      | ((with_reducible refine AOps_nil ?_); try simp only [thenA, blockA, if_true, if_false, reduceIte])
      | (with_reducible refine AW_block ?_)
      | ((with_reducible refine AW_ret ?_); try simp only [thenA, blockA])
      | ((with_reducible refine AW_skip ?_); try simp only [thenA, blockA])
      | ((with_reducible refine AW_exit ?_); try simp only [thenA, blockA, if_true, if_false, reduceIte, Nat.reduceEqDiff, reduceCtorEq])
      | (refine AW_cond rfl (fun hg => ?_) (fun hg => ?_) <;> first | (exfalso; simp only [reduceCtorEq] at hg; done) | ((try simp only [Bool.not_eq_true', Bool.not_eq_false', decide_eq_true_eq, decide_eq_false_iff_not] at hg); try (exfalso; omega)))
      | (refine And.intro (fun hg => ?_) (fun hg => ?_) <;> (try simp only [Bool.not_eq_true', Bool.not_eq_false'] at hg) <;> simp only [hg] <;> (try simp only [decide_eq_true_eq, decide_eq_false_iff_not] at hg))
      | (clear hK K)
      | fail)
    · refine hK _ _ (k + 1) (by (try simp only); omega) (by (try simp only); omega) ?j8 ?h8
      case h8 => (rfl)
      case j8 => (simp only [junkAll, setAll, List.foldl_cons, List.foldl_nil, List.set_cons_succ, List.set_cons_zero, JL, true_or, or_true, and_true, true_and, reduceCtorEq, false_or, or_false, LV.int.injEq, LV.bool.injEq, LV.flt.injEq, LV.sl.injEq, LV.ptr.injEq, eq_self, Int.natCast_add, Int.natCast_one, Int.natCast_zero, Int.ofNat_zero]; rw [foldM_take _ _ _ (by omega) (by omega)]; (first | omega | (split <;> omega)))
    · all_goals (first | refine EndA_same (by first | exact Or.inr rfl | exact Or.inl rfl) (by simp only [Try.results116, resA, aresL, go_sem, reduceIte, reduceCtorEq, Nat.reduceAdd, Nat.reduceMul, Nat.reduceSub, Nat.reduceLeDiff, Nat.lt_irrefl, Nat.reduceEqDiff, Nat.reduceBEq, Int.reduceLE, Int.reduceLT, Int.reduceToNat, w64, eq_self] <;> rfl) ?_ | refine EndA_cut hcl (by first | exact Or.inr rfl | exact Or.inl rfl) (by simp only [Try.results116, resA, aresL, go_sem, reduceIte, reduceCtorEq, Nat.reduceAdd, Nat.reduceMul, Nat.reduceSub, Nat.reduceLeDiff, Nat.lt_irrefl, Nat.reduceEqDiff, Nat.reduceBEq, Int.reduceLE, Int.reduceLT, Int.reduceToNat, w64, eq_self] <;> rfl) rfl ?_)
      have e : k = xs.length := by omega
      subst e
      exact ⟨by rw [List.take_length]; rfl, rfl⟩
def wOk (xs : List Int) (l : Int) : Bool := (decide (1 ≤ xs.length) && decide (xs.length ≤ 128)) && (xs.all fun x => inB x (-1000000) 1000000) && inB l 1 128
theorem l06List_c (lv : LV) (xs : List Int) (l : Int) (H : Hp) (h : RdL H lv (xs.map (LV.int .i64))) (hn : xs.length ≤ 17592186044416) : FunH Try.prog 108 [lv, .int .i64 l] H fun r H' => r = .bool (wOk xs l) ∧ H' = H := by
  unfold wOk
  (refine FunH_body tyOk Try.func108 rfl (by kernel_rfl) Try.ntmps108 (fun hcl hbd => ?_); simp only [List.length_cons, List.length_nil, Nat.reduceAdd, Nat.reduceSub, List.replicate, List.cons_append, List.nil_append])
  repeat' (first
    | ((with_reducible refine hK _ _ ?_); clear hK K)
    | (with_reducible refine AW_seq (fun K hK => ?_))
    | (with_reducible refine AW_region tyOk ?_)
    | ((with_reducible refine AOps_cons (fun K hK => ?_)); simp (disch := first | omega | assumption | rfl | (exact liveO_setS (by assumption)) | (simp only [go_sem]; first | done | omega)) only [go_sem, reduceIte, reduceCtorEq, Nat.reduceAdd, Nat.reduceMul, Nat.reduceSub, Nat.reduceLeDiff, Nat.lt_irrefl, Nat.reduceEqDiff, Nat.reduceBEq, Int.reduceLE, Int.reduceLT, Int.reduceToNat, w64, eq_self])
    | ((with_reducible refine AOps_nil ?_); try simp only [thenA, blockA, if_true, if_false, reduceIte])
    | (with_reducible refine AW_block ?_)
    | ((with_reducible refine AW_ret ?_); try simp only [thenA, blockA])
    | ((with_reducible refine AW_skip ?_); try simp only [thenA, blockA])
    | ((with_reducible refine AW_exit ?_); try simp only [thenA, blockA, if_true, if_false, reduceIte, Nat.reduceEqDiff, reduceCtorEq])
    | (refine AW_cond rfl (fun hg => ?_) (fun hg => ?_) <;> first | (exfalso; simp only [reduceCtorEq] at hg; done) | ((try simp only [Bool.not_eq_true', Bool.not_eq_false', decide_eq_true_eq, decide_eq_false_iff_not] at hg); try (exfalso; omega)))
    | (refine And.intro (fun hg => ?_) (fun hg => ?_) <;> (try simp only [Bool.not_eq_true', Bool.not_eq_false'] at hg) <;> simp only [hg] <;> (try simp only [decide_eq_true_eq, decide_eq_false_iff_not] at hg))
    | ((first | (refine FunH.mono (l00In_c _ _ _ _) ?_)); rintro r H1 ⟨hr1, hr2⟩; replace hr1 := hr1.symm; replace hr2 := hr2.symm; subst hr1; subst hr2; try simp (disch := first | omega | assumption | rfl | (exact liveO_setS (by assumption)) | (simp only [go_sem]; first | done | omega)) only [go_sem, reduceIte, reduceCtorEq, Nat.reduceAdd, Nat.reduceMul, Nat.reduceSub, Nat.reduceLeDiff, Nat.lt_irrefl, Nat.reduceEqDiff, Nat.reduceBEq, Int.reduceLE, Int.reduceLT, Int.reduceToNat, w64, eq_self])
    | (clear hK K)
    | fail)
  refine AW_loopV [4, 5, 6, 7, 8, 9, 10, 11, 12, 13, 14, 15, 16, 17] (fun k : Nat => [(5, .int .i64 (k : Nat))]) (fun _ => H) (fun k => k ≤ xs.length ∧ ∀ j, j < k → inB (ix xs j) (-1000000) 1000000 = true) (fun k => xs.length - k) 0 ⟨Nat.zero_le _, fun j hj => by omega⟩ ?_ rfl ?_
  · simp only [junkAll, setAll, List.foldl_cons, List.foldl_nil, List.set_cons_succ, List.set_cons_zero, JL, true_or, or_true, and_true, true_and, reduceCtorEq, false_or, or_false, LV.int.injEq, LV.bool.injEq, LV.flt.injEq, LV.sl.injEq, LV.ptr.injEq, eq_self, Int.natCast_add, Int.natCast_one, Int.natCast_zero, Int.ofNat_zero]
  · intro k ⟨hk, hp⟩ K hK
    simp only [junkAll, setAll, List.foldl_cons, List.foldl_nil, List.set_cons_succ, List.set_cons_zero]
    repeat' (first
      | ((with_reducible refine hK _ _ ?_); clear hK K)
      | (with_reducible refine AW_seq (fun K hK => ?_))
      | (with_reducible refine AW_region tyOk ?_)
      | ((with_reducible refine AOps_cons (fun K hK => ?_)); simp (disch := first | omega | assumption | rfl | (exact liveO_setS (by assumption)) | (simp only [go_sem]; first | done | omega)) only [go_sem, reduceIte, reduceCtorEq, Nat.reduceAdd, Nat.reduceMul, Nat.reduceSub, Nat.reduceLeDiff, Nat.lt_irrefl, Nat.reduceEqDiff, Nat.reduceBEq, Int.reduceLE, Int.reduceLT, Int.reduceToNat, w64, eq_self, h.lenm, h.idxm, h.ldm])
      | ((with_reducible refine AOps_nil ?_); try simp only [thenA, blockA, if_true, if_false, reduceIte])
      | (with_reducible refine AW_block ?_)
      | ((with_reducible refine AW_ret ?_); try simp only [thenA, blockA])
      | ((with_reducible refine AW_skip ?_); try simp only [thenA, blockA])
      | ((with_reducible refine AW_exit ?_); try simp only [thenA, blockA, if_true, if_false, reduceIte, Nat.reduceEqDiff, reduceCtorEq])
      | (refine AW_cond rfl (fun hg => ?_) (fun hg => ?_) <;> first | (exfalso; simp only [reduceCtorEq] at hg; done) | ((try simp only [Bool.not_eq_true', Bool.not_eq_false', decide_eq_true_eq, decide_eq_false_iff_not] at hg); try (exfalso; omega)))
      | (refine And.intro (fun hg => ?_) (fun hg => ?_) <;> (try simp only [Bool.not_eq_true', Bool.not_eq_false'] at hg) <;> simp only [hg] <;> (try simp only [decide_eq_true_eq, decide_eq_false_iff_not] at hg))
      | ((first | (refine FunH.mono (l00In_c _ _ _ _) ?_)); rintro r H1 ⟨hr1, hr2⟩; replace hr1 := hr1.symm; replace hr2 := hr2.symm; subst hr1; subst hr2; try simp (disch := first | omega | assumption | rfl | (exact liveO_setS (by assumption)) | (simp only [go_sem]; first | done | omega)) only [go_sem, reduceIte, reduceCtorEq, Nat.reduceAdd, Nat.reduceMul, Nat.reduceSub, Nat.reduceLeDiff, Nat.lt_irrefl, Nat.reduceEqDiff, Nat.reduceBEq, Int.reduceLE, Int.reduceLT, Int.reduceToNat, w64, eq_self, h.lenm, h.idxm, h.ldm])
      | (clear hK K)
      | fail)
    · all_goals (first | refine EndA_same (by first | exact Or.inr rfl | exact Or.inl rfl) (by simp only [Try.results108, resA, aresL, go_sem, reduceIte, reduceCtorEq, Nat.reduceAdd, Nat.reduceMul, Nat.reduceSub, Nat.reduceLeDiff, Nat.lt_irrefl, Nat.reduceEqDiff, Nat.reduceBEq, Int.reduceLE, Int.reduceLT, Int.reduceToNat, w64, eq_self] <;> rfl) ?_ | refine EndA_cut hcl (by first | exact Or.inr rfl | exact Or.inl rfl) (by simp only [Try.results108, resA, aresL, go_sem, reduceIte, reduceCtorEq, Nat.reduceAdd, Nat.reduceMul, Nat.reduceSub, Nat.reduceLeDiff, Nat.lt_irrefl, Nat.reduceEqDiff, Nat.reduceBEq, Int.reduceLE, Int.reduceLT, Int.reduceToNat, w64, eq_self] <;> rfl) rfl ?_)
      have e := not_all_of_ix (p := fun x => inB x (-1000000) 1000000) (by omega) hg
      all_goals (refine ⟨congrArg LV.bool ?_, rfl⟩; first | rfl | (grind))
    · refine hK _ _ (k + 1) ⟨by omega, lt_succ_cases hp hg⟩ (by omega) ?_ rfl
      simp only [junkAll, setAll, List.foldl_cons, List.foldl_nil, List.set_cons_succ, List.set_cons_zero, JL, true_or, or_true, and_true, true_and, reduceCtorEq, false_or, or_false, LV.int.injEq, LV.bool.injEq, LV.flt.injEq, LV.sl.injEq, LV.ptr.injEq, eq_self, Int.natCast_add, Int.natCast_one, Int.natCast_zero, Int.ofNat_zero]
    all_goals (
      have e := all_of_ix (p := fun x => inB x (-1000000) 1000000) (xs := xs) fun j hj => hp j (by omega))
    all_goals (first | refine EndA_same (by first | exact Or.inr rfl | exact Or.inl rfl) (by simp only [Try.results108, resA, aresL, go_sem, reduceIte, reduceCtorEq, Nat.reduceAdd, Nat.reduceMul, Nat.reduceSub, Nat.reduceLeDiff, Nat.lt_irrefl, Nat.reduceEqDiff, Nat.reduceBEq, Int.reduceLE, Int.reduceLT, Int.reduceToNat, w64, eq_self] <;> rfl) ?_ | refine EndA_cut hcl (by first | exact Or.inr rfl | exact Or.inl rfl) (by simp only [Try.results108, resA, aresL, go_sem, reduceIte, reduceCtorEq, Nat.reduceAdd, Nat.reduceMul, Nat.reduceSub, Nat.reduceLeDiff, Nat.lt_irrefl, Nat.reduceEqDiff, Nat.reduceBEq, Int.reduceLE, Int.reduceLT, Int.reduceToNat, w64, eq_self] <;> rfl) rfl ?_)
    all_goals (refine ⟨congrArg LV.bool ?_, rfl⟩; first | rfl | (grind))
end Go.Proofs.Ytajekmpjebhaoaa
