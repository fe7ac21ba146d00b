/- Levels, in the abstract machine. -/
import Derived.Test.YteejnmgjjefbiaaCl
import Derived.Test.YteejnmgjjefbiaaBq
namespace Go.Proofs.Yteejnmgjjefbiaa
open Go.RowKit
set_option linter.unusedSimpArgs false
set_option linter.unusedVariables false
set_option maxRecDepth 100000

theorem IndexFunc_fs_c (lv : LV) (L : List LV) (xss : List (List (Option Nat))) (p : List (Option Nat) → Bool) (g : FuncId) (caps : List LV) (H : Hp) (h : RdL H lv L) (hL : RdLL H L xss) (hf : ∀ k, k < xss.length → FunH Try.prog g (ix L k :: caps) H fun r H' => r = .bool (p (ix xss k)) ∧ H' = H) (hn : xss.length ≤ 17592186044416) :
    FunH Try.prog 41 [lv, .fn g caps] H fun r H' => r = .int .i64 (idxF p xss) ∧ H' = H := by
  have hlen := hL.length
  have hll := h.lenL hL
  (refine FunH_body tyOk Try.func41 rfl (by kernel_rfl) Try.ntmps41 (fun hcl hbd => ?_); simp only [List.length_cons, List.length_nil, Nat.reduceAdd, Nat.reduceSub, List.replicate, List.cons_append, List.nil_append])
  repeat' (first
    | ((with_reducible refine hK _ _ ?_); clear hK K)
    | ((first | (with_reducible show AOp _ _ _ _ _ _ _)); simp (disch := first | ((with_reducible show liveO _ _ _ = true); first | assumption | (exact liveO_setS (by assumption)) | (exact PtL.live (by assumption)) | (exact PtL.liveA (by assumption) _) | (simp only [go_sem]; done)) | omega | assumption | rfl | (simp only [go_sem]; first | done | omega)) only [go_sem, reduceIte, reduceCtorEq, Nat.reduceAdd, Nat.reduceMul, Nat.reduceSub, Nat.reduceLeDiff, Nat.lt_irrefl, Nat.reduceLT, Nat.reduceEqDiff, Nat.reduceBEq, Int.reduceLE, Int.reduceLT, Int.reduceToNat, w64, eq_self, hll])
    | (with_reducible refine AW_seq (fun K hK => ?_))
    | (with_reducible refine AW_region tyOk ?_)
    | (with_reducible refine AOps_cons (fun K hK => ?_))
    | ((with_reducible refine AOps_nil ?_); try simp only [thenA, blockA, if_true, if_false, reduceIte, Nat.reduceEqDiff, reduceCtorEq])
    | (with_reducible refine AW_block ?_)
    | ((first | (with_reducible refine AW_ret ?_) | (with_reducible refine AW_skip ?_) | (with_reducible refine AW_exit ?_)); try simp only [thenA, blockA, if_true, if_false, reduceIte, Nat.reduceEqDiff, reduceCtorEq])
    | ((with_reducible show AW _ _ (.cond _ _ _) _ _ _); refine AW_cond rfl (fun hg => ?_) (fun hg => ?_) <;> first | (exfalso; simp only [reduceCtorEq] at hg; done) | ((try simp only [Bool.not_eq_true', Bool.not_eq_false', decide_eq_true_eq, decide_eq_false_iff_not] at hg); try (exfalso; omega)))
    | ((with_reducible show _ ∧ _); refine And.intro (fun hg => ?_) (fun hg => ?_) <;> (try simp only [Bool.not_eq_true', Bool.not_eq_false'] at hg) <;> simp only [hg] <;> (try simp only [decide_eq_true_eq, decide_eq_false_iff_not] at hg) <;> (try (exfalso; omega)))
    | (clear hK K)
    | fail)
  refine AW_loopV [4, 5, 8, 9, 10, 11, 12, 13, 14, 15, 16, 17, 18] (fun k : Nat => [(8, .int .i64 (k : Nat))]) (fun _ => H) (fun k => k ≤ xss.length ∧ ∀ j, j < k → p (ix xss j) = false) (fun k => xss.length - k) 0 ⟨Nat.zero_le _, fun j hj => by omega⟩ ?_ rfl ?_
  · simp only [junkAll, setAll, List.foldl_cons, List.foldl_nil, List.set_cons_succ, List.set_cons_zero, JL, true_or, or_true, and_true, true_and, reduceCtorEq, false_or, or_false, LV.int.injEq, LV.bool.injEq, LV.flt.injEq, LV.sl.injEq, LV.ptr.injEq, eq_self, Int.natCast_add, Int.natCast_one, Int.natCast_zero, Int.ofNat_zero]
  · intro k ⟨hk, hp⟩ K hK
    simp only [junkAll, setAll, List.foldl_cons, List.foldl_nil, List.set_cons_succ, List.set_cons_zero]
    repeat' (first
      | ((with_reducible refine hK _ _ ?_); clear hK K)
      | ((first | (with_reducible show AOp _ _ _ _ _ _ _)); simp (disch := first | ((with_reducible show liveO _ _ _ = true); first | assumption | (exact liveO_setS (by assumption)) | (exact PtL.live (by assumption)) | (exact PtL.liveA (by assumption) _) | (simp only [go_sem]; done)) | omega | assumption | rfl | (simp only [go_sem]; first | done | omega)) only [go_sem, reduceIte, reduceCtorEq, Nat.reduceAdd, Nat.reduceMul, Nat.reduceSub, Nat.reduceLeDiff, Nat.lt_irrefl, Nat.reduceLT, Nat.reduceEqDiff, Nat.reduceBEq, Int.reduceLE, Int.reduceLT, Int.reduceToNat, w64, eq_self, h.idx, h.ldx])
      | (with_reducible refine AW_seq (fun K hK => ?_))
      | (with_reducible refine AW_region tyOk ?_)
      | (with_reducible refine AOps_cons (fun K hK => ?_))
      | ((with_reducible refine AOps_nil ?_); try simp only [thenA, blockA, if_true, if_false, reduceIte, Nat.reduceEqDiff, reduceCtorEq])
      | (with_reducible refine AW_block ?_)
      | ((first | (with_reducible refine AW_ret ?_) | (with_reducible refine AW_skip ?_) | (with_reducible refine AW_exit ?_)); try simp only [thenA, blockA, if_true, if_false, reduceIte, Nat.reduceEqDiff, reduceCtorEq])
      | ((with_reducible show AW _ _ (.cond _ _ _) _ _ _); refine AW_cond rfl (fun hg => ?_) (fun hg => ?_) <;> first | (exfalso; simp only [reduceCtorEq] at hg; done) | ((try simp only [Bool.not_eq_true', Bool.not_eq_false', decide_eq_true_eq, decide_eq_false_iff_not] at hg); try (exfalso; omega)))
      | ((with_reducible show _ ∧ _); refine And.intro (fun hg => ?_) (fun hg => ?_) <;> (try simp only [Bool.not_eq_true', Bool.not_eq_false'] at hg) <;> simp only [hg] <;> (try simp only [decide_eq_true_eq, decide_eq_false_iff_not] at hg) <;> (try (exfalso; omega)))
      | ((with_reducible apply FunH_intro); (first | exact hf k (by omega)))
      | (clear hK K)
      | fail)
    · all_goals (first | refine EndA_cut hcl (by first | exact Or.inr rfl | exact Or.inl rfl) (by simp only [Try.results41, resA, aresL, go_sem, reduceIte, reduceCtorEq, Nat.reduceAdd, Nat.reduceMul, Nat.reduceSub, Nat.reduceLeDiff, Nat.lt_irrefl, Nat.reduceLT, Nat.reduceEqDiff, Nat.reduceBEq, Int.reduceLE, Int.reduceLT, Int.reduceToNat, w64, eq_self] <;> rfl) rfl ?_ | refine EndA_same (by first | exact Or.inr rfl | exact Or.inl rfl) (by simp only [Try.results41, resA, aresL, go_sem, reduceIte, reduceCtorEq, Nat.reduceAdd, Nat.reduceMul, Nat.reduceSub, Nat.reduceLeDiff, Nat.lt_irrefl, Nat.reduceLT, Nat.reduceEqDiff, Nat.reduceBEq, Int.reduceLE, Int.reduceLT, Int.reduceToNat, w64, eq_self] <;> rfl) ?_)
      exact ⟨by rw [idxF_at (by omega) hg hp], rfl⟩
    · refine hK _ _ (k + 1) ⟨by omega, lt_succ_cases hp hg⟩ (by omega) ?_ rfl
      simp only [junkAll, setAll, List.foldl_cons, List.foldl_nil, List.set_cons_succ, List.set_cons_zero, JL, true_or, or_true, and_true, true_and, reduceCtorEq, false_or, or_false, LV.int.injEq, LV.bool.injEq, LV.flt.injEq, LV.sl.injEq, LV.ptr.injEq, eq_self, Int.natCast_add, Int.natCast_one, Int.natCast_zero, Int.ofNat_zero]
    · all_goals (first | refine EndA_cut hcl (by first | exact Or.inr rfl | exact Or.inl rfl) (by simp only [Try.results41, resA, aresL, go_sem, reduceIte, reduceCtorEq, Nat.reduceAdd, Nat.reduceMul, Nat.reduceSub, Nat.reduceLeDiff, Nat.lt_irrefl, Nat.reduceLT, Nat.reduceEqDiff, Nat.reduceBEq, Int.reduceLE, Int.reduceLT, Int.reduceToNat, w64, eq_self] <;> rfl) rfl ?_ | refine EndA_same (by first | exact Or.inr rfl | exact Or.inl rfl) (by simp only [Try.results41, resA, aresL, go_sem, reduceIte, reduceCtorEq, Nat.reduceAdd, Nat.reduceMul, Nat.reduceSub, Nat.reduceLeDiff, Nat.lt_irrefl, Nat.reduceLT, Nat.reduceEqDiff, Nat.reduceBEq, Int.reduceLE, Int.reduceLT, Int.reduceToNat, w64, eq_self] <;> rfl) ?_)
      exact ⟨by rw [idxF_none fun j hj => hp j (by omega)], rfl⟩
theorem ContainsFunc_fs_c (lv : LV) (L : List LV) (xss : List (List (Option Nat))) (p : List (Option Nat) → Bool) (g : FuncId) (caps : List LV) (H : Hp) (h : RdL H lv L) (hL : RdLL H L xss) (hf : ∀ k, k < xss.length → FunH Try.prog g (ix L k :: caps) H fun r H' => r = .bool (p (ix xss k)) ∧ H' = H) (hn : xss.length ≤ 17592186044416) :
    FunH Try.prog 27 [lv, .fn g caps] H fun r H' => r = .bool (xss.any p) ∧ H' = H := by
  (refine FunH_body tyOk Try.func27 rfl (by kernel_rfl) Try.ntmps27 (fun hcl hbd => ?_); simp only [List.length_cons, List.length_nil, Nat.reduceAdd, Nat.reduceSub, List.replicate, List.cons_append, List.nil_append])
  repeat' (first
    | ((with_reducible refine hK _ _ ?_); clear hK K)
    | ((first | (with_reducible show AOp _ _ _ _ _ _ _)); simp (disch := first | ((with_reducible show liveO _ _ _ = true); first | assumption | (exact liveO_setS (by assumption)) | (exact PtL.live (by assumption)) | (exact PtL.liveA (by assumption) _) | (simp only [go_sem]; done)) | omega | assumption | rfl | (simp only [go_sem]; first | done | omega)) only [go_sem, reduceIte, reduceCtorEq, Nat.reduceAdd, Nat.reduceMul, Nat.reduceSub, Nat.reduceLeDiff, Nat.lt_irrefl, Nat.reduceLT, Nat.reduceEqDiff, Nat.reduceBEq, Int.reduceLE, Int.reduceLT, Int.reduceToNat, w64, eq_self, and_true])
    | (with_reducible refine AW_seq (fun K hK => ?_))
    | (with_reducible refine AW_region tyOk ?_)
    | (with_reducible refine AOps_cons (fun K hK => ?_))
    | ((with_reducible refine AOps_nil ?_); try simp only [thenA, blockA, if_true, if_false, reduceIte, Nat.reduceEqDiff, reduceCtorEq])
    | (with_reducible refine AW_block ?_)
    | ((first | (with_reducible refine AW_ret ?_) | (with_reducible refine AW_skip ?_) | (with_reducible refine AW_exit ?_)); try simp only [thenA, blockA, if_true, if_false, reduceIte, Nat.reduceEqDiff, reduceCtorEq])
    | ((with_reducible show AW _ _ (.cond _ _ _) _ _ _); refine AW_cond rfl (fun hg => ?_) (fun hg => ?_) <;> first | (exfalso; simp only [reduceCtorEq] at hg; done) | ((try simp only [Bool.not_eq_true', Bool.not_eq_false', decide_eq_true_eq, decide_eq_false_iff_not] at hg); try (exfalso; omega)))
    | ((with_reducible show _ ∧ _); refine And.intro (fun hg => ?_) (fun hg => ?_) <;> (try simp only [Bool.not_eq_true', Bool.not_eq_false'] at hg) <;> simp only [hg] <;> (try simp only [decide_eq_true_eq, decide_eq_false_iff_not] at hg) <;> (try (exfalso; omega)))
    | ((with_reducible apply FunH_intro); (first | exact IndexFunc_fs_c _ L xss p _ _ _ h hL hf hn | exact IndexFunc_fs_c _ _ _ _ _ _ _ (by first | assumption | exact RdL.app (by assumption) _ | exact RdL_hj rfl (by simp) | exact RdL_h0 rfl (by simp) | exact RdL_nil | exact RdL_emp) (by first | assumption | exact RdLL.app (by assumption) _) (by first | assumption | (simp; done)) (by first | assumption | omega | (simp; omega) | (simp; done))))
    | (clear hK K)
    | fail)
  all_goals (first | refine EndA_cut hcl (by first | exact Or.inr rfl | exact Or.inl rfl) (by simp only [Try.results27, resA, aresL, go_sem, reduceIte, reduceCtorEq, Nat.reduceAdd, Nat.reduceMul, Nat.reduceSub, Nat.reduceLeDiff, Nat.lt_irrefl, Nat.reduceLT, Nat.reduceEqDiff, Nat.reduceBEq, Int.reduceLE, Int.reduceLT, Int.reduceToNat, w64, eq_self] <;> rfl) rfl ?_ | refine EndA_same (by first | exact Or.inr rfl | exact Or.inl rfl) (by simp only [Try.results27, resA, aresL, go_sem, reduceIte, reduceCtorEq, Nat.reduceAdd, Nat.reduceMul, Nat.reduceSub, Nat.reduceLeDiff, Nat.lt_irrefl, Nat.reduceLT, Nat.reduceEqDiff, Nat.reduceBEq, Int.reduceLE, Int.reduceLT, Int.reduceToNat, w64, eq_self] <;> rfl) ?_)
  all_goals exact ⟨by rw [← idxF_nonneg], rfl⟩
def levP (r : Int) (xs : List (Option Nat)) : Bool := decide ((xs.length : Int) < r) && xs.all finO
def levB (r s : Int) (xss : List (List (Option Nat))) : Bool := inB r 2 64 && (r.tmod 2 == 0) && inB s 0 4294967295 && decide (1 ≤ xss.length) && decide (xss.length ≤ 16) && xss.all (levP r)
theorem any_notL {α : Type} (p : α → Bool) (xs : List α) : (!(xs.any fun x => !p x)) = xs.all p := by
  induction xs with
  | nil => rfl
  | cons x xs ih => simp only [List.any_cons, List.all_cons, Bool.not_or, Bool.not_not, ih]
theorem levP_len {r : Int} {xss : List (List (Option Nat))} (h : totL xss ≤ 1048576) {k : Nat} (hk : k < xss.length) : (ix xss k).length ≤ 1048576 := by
  have := stT_at hk; unfold totL at h; omega
theorem ValidLevels1_c (id ver : Nat) (l : LV) (r s : Int) (v : LV) (xs : List (Option Nat)) (H : Hp) (hp : PtL H id ver [.int .i64 r, .int .i64 s, v]) (h : RdL H l (xs.map (LV.flt .f32))) (hn : xs.length ≤ 1048576) :
    FunH Try.prog 28 [l, .ptr id ver 0] H fun r' H' => r' = .bool (!levP r xs) ∧ H' = H := by
  unfold levP
  (refine FunH_body tyOk Try.func28 rfl (by kernel_rfl) Try.ntmps28 (fun hcl hbd => ?_); simp only [List.length_cons, List.length_nil, Nat.reduceAdd, Nat.reduceSub, List.replicate, List.cons_append, List.nil_append])
  repeat' (first
    | ((with_reducible refine hK _ _ ?_); clear hK K)
    | ((first | (with_reducible show AOp _ _ _ _ _ _ _)); simp (disch := first | ((with_reducible show liveO _ _ _ = true); first | assumption | (exact liveO_setS (by assumption)) | (exact PtL.live (by assumption)) | (exact PtL.liveA (by assumption) _) | (simp only [go_sem]; done)) | omega | assumption | rfl | (simp only [go_sem]; first | done | omega)) only [go_sem, reduceIte, reduceCtorEq, Nat.reduceAdd, Nat.reduceMul, Nat.reduceSub, Nat.reduceLeDiff, Nat.lt_irrefl, Nat.reduceLT, Nat.reduceEqDiff, Nat.reduceBEq, Int.reduceLE, Int.reduceLT, Int.reduceToNat, w64, eq_self, hp.get, h.lenm])
    | (with_reducible refine AW_seq (fun K hK => ?_))
    | (with_reducible refine AW_region tyOk ?_)
    | (with_reducible refine AOps_cons (fun K hK => ?_))
    | ((with_reducible refine AOps_nil ?_); try simp only [thenA, blockA, if_true, if_false, reduceIte, Nat.reduceEqDiff, reduceCtorEq])
    | (with_reducible refine AW_block ?_)
    | ((first | (with_reducible refine AW_ret ?_) | (with_reducible refine AW_skip ?_) | (with_reducible refine AW_exit ?_)); try simp only [thenA, blockA, if_true, if_false, reduceIte, Nat.reduceEqDiff, reduceCtorEq])
    | ((with_reducible show AW _ _ (.cond _ _ _) _ _ _); refine AW_cond rfl (fun hg => ?_) (fun hg => ?_) <;> first | (exfalso; simp only [reduceCtorEq] at hg; done) | ((try simp only [Bool.not_eq_true', Bool.not_eq_false', decide_eq_true_eq, decide_eq_false_iff_not] at hg); try (exfalso; omega)))
    | ((with_reducible show _ ∧ _); refine And.intro (fun hg => ?_) (fun hg => ?_) <;> (try simp only [Bool.not_eq_true', Bool.not_eq_false'] at hg) <;> simp only [hg] <;> (try simp only [decide_eq_true_eq, decide_eq_false_iff_not] at hg) <;> (try (exfalso; omega)))
    | ((with_reducible apply FunH_intro); (first | exact areFinite_c _ _ _ (by first | assumption | exact RdL.app (by assumption) _ | exact RdL_hj rfl (by simp) | exact RdL_h0 rfl (by simp) | exact RdL_nil | exact RdL_emp) (by first | assumption | omega | (simp; omega) | (simp; done))))
    | (clear hK K)
    | fail)
  all_goals (first | refine EndA_cut hcl (by first | exact Or.inr rfl | exact Or.inl rfl) (by simp only [Try.results28, resA, aresL, go_sem, reduceIte, reduceCtorEq, Nat.reduceAdd, Nat.reduceMul, Nat.reduceSub, Nat.reduceLeDiff, Nat.lt_irrefl, Nat.reduceLT, Nat.reduceEqDiff, Nat.reduceBEq, Int.reduceLE, Int.reduceLT, Int.reduceToNat, w64, eq_self] <;> rfl) rfl ?_ | refine EndA_same (by first | exact Or.inr rfl | exact Or.inl rfl) (by simp only [Try.results28, resA, aresL, go_sem, reduceIte, reduceCtorEq, Nat.reduceAdd, Nat.reduceMul, Nat.reduceSub, Nat.reduceLeDiff, Nat.lt_irrefl, Nat.reduceLT, Nat.reduceEqDiff, Nat.reduceBEq, Int.reduceLE, Int.reduceLT, Int.reduceToNat, w64, eq_self] <;> rfl) ?_)
  all_goals (refine ⟨congrArg LV.bool ?_, rfl⟩; first | rfl | (simp_all; done) | grind)
set_option maxHeartbeats 2000000 in
theorem iValidLevels_c (r s : Int) (v : LV) (L : List LV) (xss : List (List (Option Nat))) (H : Hp) (h : RdL H v L) (hL : RdLL H L xss) (hn : totL xss ≤ 1048576) :
    FunH Try.prog 11 [.agg [.int .i64 r, .int .i64 s, v]] H fun r' H' => r' = .bool (levB r s xss) ∧ H' = H := by
  have hlen := hL.length
  have hll := h.lenL hL
  unfold levB
  rw [← any_notL (levP r) xss]
  (refine FunH_body tyOk Try.func11 rfl (by kernel_rfl) Try.ntmps11 (fun hcl hbd => ?_); simp only [List.length_cons, List.length_nil, Nat.reduceAdd, Nat.reduceSub, List.replicate, List.cons_append, List.nil_append])
  repeat' (first
    | ((with_reducible refine hK _ _ ?_); clear hK K)
    | ((first | (with_reducible show AOp _ _ _ _ _ _ _)); simp (disch := first | ((with_reducible show liveO _ _ _ = true); first | assumption | (exact liveO_setS (by assumption)) | (exact PtL.live (by assumption)) | (exact PtL.liveA (by assumption) _) | (simp only [go_sem]; done)) | omega | assumption | rfl | (simp only [go_sem]; first | done | omega)) only [go_sem, reduceIte, reduceCtorEq, Nat.reduceAdd, Nat.reduceMul, Nat.reduceSub, Nat.reduceLeDiff, Nat.lt_irrefl, Nat.reduceLT, Nat.reduceEqDiff, Nat.reduceBEq, Int.reduceLE, Int.reduceLT, Int.reduceToNat, w64, eq_self, h.isCell, hll, List.size_toArray])
    | (with_reducible refine AW_seq (fun K hK => ?_))
    | (with_reducible refine AW_region tyOk ?_)
    | (with_reducible refine AOps_cons (fun K hK => ?_))
    | ((with_reducible refine AOps_nil ?_); try simp only [thenA, blockA, if_true, if_false, reduceIte, Nat.reduceEqDiff, reduceCtorEq])
    | (with_reducible refine AW_block ?_)
    | ((first | (with_reducible refine AW_ret ?_) | (with_reducible refine AW_skip ?_) | (with_reducible refine AW_exit ?_)); try simp only [thenA, blockA, if_true, if_false, reduceIte, Nat.reduceEqDiff, reduceCtorEq])
    | ((with_reducible show AW _ _ (.cond _ _ _) _ _ _); refine AW_cond rfl (fun hg => ?_) (fun hg => ?_) <;> first | (exfalso; simp only [reduceCtorEq] at hg; done) | ((try simp only [Bool.not_eq_true', Bool.not_eq_false', decide_eq_true_eq, decide_eq_false_iff_not] at hg); try (exfalso; omega)))
    | ((with_reducible show _ ∧ _); refine And.intro (fun hg => ?_) (fun hg => ?_) <;> (try simp only [Bool.not_eq_true', Bool.not_eq_false'] at hg) <;> simp only [hg] <;> (try simp only [decide_eq_true_eq, decide_eq_false_iff_not] at hg) <;> (try (exfalso; omega)))
    | ((with_reducible apply FunH_intro); (first | exact ContainsFunc_fs_c _ L xss (fun xs => !levP r xs) _ _ _ (h.app _) (hL.app _) (fun k hk => ValidLevels1_c _ _ _ _ _ _ _ _ (PtL_h0 rfl) ((hL.at hk).app _) (levP_len (r := r) hn hk)) (by omega) | exact isTupleRoom_c _ _ | exact IsKey_c _ _ | exact ContainsFunc_fs_c _ _ _ _ _ _ _ (by first | assumption | exact RdL.app (by assumption) _ | exact RdL_hj rfl (by simp) | exact RdL_h0 rfl (by simp) | exact RdL_nil | exact RdL_emp) (by first | assumption | exact RdLL.app (by assumption) _) (by first | assumption | (simp; done)) (by first | assumption | omega | (simp; omega) | (simp; done)) | exact ValidLevels1_c _ _ _ _ _ _ _ _ (by first | assumption | exact PtL.app (by assumption) _ | exact PtL_h0 rfl | exact PtL_hj rfl) (by first | assumption | exact RdL.app (by assumption) _ | exact RdL_hj rfl (by simp) | exact RdL_h0 rfl (by simp) | exact RdL_nil | exact RdL_emp) (by first | assumption | omega | (simp; omega) | (simp; done))))
    | (clear hK K)
    | fail)
  all_goals (refine EndA_cut hcl (by first | exact Or.inr rfl | exact Or.inl rfl) (by simp only [Try.results11, resA, aresL, go_sem, reduceIte, reduceCtorEq, Nat.reduceAdd, Nat.reduceMul, Nat.reduceSub, Nat.reduceLeDiff, Nat.lt_irrefl, Nat.reduceLT, Nat.reduceEqDiff, Nat.reduceBEq, Int.reduceLE, Int.reduceLT, Int.reduceToNat, w64, eq_self] <;> rfl) rfl ?_)
  all_goals (refine ⟨congrArg LV.bool ?_, rfl⟩; (try simp only [keyB] at *); first | rfl | (simp_all; done) | grind)
set_option maxHeartbeats 2000000 in
theorem l05Levels_c (id ver : Nat) (r s : Int) (v : LV) (L : List LV) (xss : List (List (Option Nat))) (H : Hp) (hp : PtL H id ver [.int .i64 r, .int .i64 s, v]) (h : RdL H v L) (hL : RdLL H L xss) (hn : totL xss ≤ 1048576) :
    FunH Try.prog 30 [.ptr id ver 0] H fun r' H' => r' = .bool (levB r s xss) ∧ H' = H := by
  have hlen := hL.length
  have hll := h.lenL hL
  cases e0 : (inB r 2 64 && (r.tmod 2 == 0) && inB s 0 4294967295 && decide (1 ≤ xss.length) && decide (xss.length ≤ 16))
  · have e : levB r s xss = false := by unfold levB; rw [e0]; rfl
    rw [e]
    (refine FunH_body tyOk Try.func30 rfl (by kernel_rfl) Try.ntmps30 (fun hcl hbd => ?_); simp only [List.length_cons, List.length_nil, Nat.reduceAdd, Nat.reduceSub, List.replicate, List.cons_append, List.nil_append])
    repeat' (first
      | ((with_reducible refine hK _ _ ?_); clear hK K)
      | ((with_reducible refine hK _ ?_); clear hK K; try simp only [])
      | ((first | (with_reducible show AOp _ _ _ _ _ _ _) | (with_reducible show AQOp _ _ _ _ _ _ _)); simp (disch := first | ((with_reducible show liveO _ _ _ = true); first | assumption | (exact liveO_setS (by assumption)) | (exact PtL.live (by assumption)) | (exact PtL.liveA (by assumption) _) | (simp only [go_sem]; done)) | omega | assumption | rfl | (simp only [go_sem]; first | done | omega)) only [go_sem, reduceIte, reduceCtorEq, Nat.reduceAdd, Nat.reduceMul, Nat.reduceSub, Nat.reduceLeDiff, Nat.lt_irrefl, Nat.reduceLT, Nat.reduceEqDiff, Nat.reduceBEq, Int.reduceLE, Int.reduceLT, Int.reduceToNat, w64, eq_self, hp.get, hll])
      | (with_reducible refine AW_seq (fun K hK => ?_))
      | (with_reducible refine AW_region tyOk ?_)
      | ((with_reducible refine AW_quiet (id := 6) tyOk ?_ ?_ ?_); (kernel_rfl); (kernel_rfl))
      | (with_reducible refine AOps_cons (fun K hK => ?_))
      | (with_reducible refine AQOps_cons (fun K hK => ?_))
      | ((with_reducible refine AQOps_nil ?_); try simp only [thenA, blockA, if_true, if_false, reduceIte, Nat.reduceEqDiff, reduceCtorEq])
      | ((with_reducible refine AOps_nil ?_); try simp only [thenA, blockA, if_true, if_false, reduceIte, Nat.reduceEqDiff, reduceCtorEq])
      | (with_reducible refine AW_block ?_)
      | ((first | (with_reducible refine AW_ret ?_) | (with_reducible refine AW_skip ?_) | (with_reducible refine AW_exit ?_)); try simp only [thenA, blockA, if_true, if_false, reduceIte, Nat.reduceEqDiff, reduceCtorEq])
      | ((with_reducible show AW _ _ (.cond _ _ _) _ _ _); refine AW_cond rfl (fun hg => ?_) (fun hg => ?_) <;> first | (exfalso; simp only [reduceCtorEq] at hg; done) | ((try simp only [Bool.not_eq_true', Bool.not_eq_false', decide_eq_true_eq, decide_eq_false_iff_not] at hg); try (exfalso; omega)))
      | ((with_reducible show _ ∧ _); refine And.intro (fun hg => ?_) (fun hg => ?_) <;> (try simp only [Bool.not_eq_true', Bool.not_eq_false'] at hg) <;> simp only [hg] <;> (try simp only [decide_eq_true_eq, decide_eq_false_iff_not] at hg) <;> (try (exfalso; omega)))
      | ((first | (with_reducible apply FunH_intro) | (with_reducible apply AQ_intro)); (first | exact l00In_c _ _ _ _ | exact l02Finite_c _ _ _ (by first | assumption | exact RdL.app (by assumption) _ | exact RdL_hj rfl (by simp) | exact RdL_h0 rfl (by simp) | exact RdL_nil | exact RdL_emp) (by first | assumption | omega | (simp; omega) | (simp; done))))
      | (clear hK K)
      | fail)
    all_goals try (exfalso; rw [show inB r 2 64 = true by assumption, show (r.tmod 2 == 0) = true by (simpa using (show (r.tmod 2 != 0) = false by assumption)), show inB s 0 4294967295 = true by assumption, decide_eq_true (show 1 ≤ xss.length by omega), decide_eq_true (show xss.length ≤ 16 by omega)] at e0; cases e0)
    all_goals (first | refine EndA_cut hcl (by first | exact Or.inr rfl | exact Or.inl rfl) (by simp only [Try.results30, resA, aresL, go_sem, reduceIte, reduceCtorEq, Nat.reduceAdd, Nat.reduceMul, Nat.reduceSub, Nat.reduceLeDiff, Nat.lt_irrefl, Nat.reduceLT, Nat.reduceEqDiff, Nat.reduceBEq, Int.reduceLE, Int.reduceLT, Int.reduceToNat, w64, eq_self] <;> rfl) rfl ?_ | refine EndA_same (by first | exact Or.inr rfl | exact Or.inl rfl) (by simp only [Try.results30, resA, aresL, go_sem, reduceIte, reduceCtorEq, Nat.reduceAdd, Nat.reduceMul, Nat.reduceSub, Nat.reduceLeDiff, Nat.lt_irrefl, Nat.reduceLT, Nat.reduceEqDiff, Nat.reduceBEq, Int.reduceLE, Int.reduceLT, Int.reduceToNat, w64, eq_self] <;> rfl) ?_)
    all_goals exact ⟨rfl, rfl⟩
  · have e1 : levB r s xss = xss.all (levP r) := by unfold levB; rw [e0]; rfl
    have e2 : inB r 2 64 = true ∧ (r.tmod 2 == 0) = true ∧ inB s 0 4294967295 = true ∧ 1 ≤ xss.length ∧ xss.length ≤ 16 := by simpa [and_assoc] using e0
    obtain ⟨e3, e4, e5, e6, e7⟩ := e2
    have e4' : (r.tmod 2 != 0) = false := by simpa using e4
    rw [e1]
    (refine FunH_body tyOk Try.func30 rfl (by kernel_rfl) Try.ntmps30 (fun hcl hbd => ?_); simp only [List.length_cons, List.length_nil, Nat.reduceAdd, Nat.reduceSub, List.replicate, List.cons_append, List.nil_append])
    repeat' (first
      | ((with_reducible refine hK _ _ ?_); clear hK K)
      | ((with_reducible refine hK _ ?_); clear hK K; try simp only [])
      | ((first | (with_reducible show AOp _ _ _ _ _ _ _) | (with_reducible show AQOp _ _ _ _ _ _ _)); simp (disch := first | ((with_reducible show liveO _ _ _ = true); first | assumption | (exact liveO_setS (by assumption)) | (exact PtL.live (by assumption)) | (exact PtL.liveA (by assumption) _) | (simp only [go_sem]; done)) | omega | assumption | rfl | (simp only [go_sem]; first | done | omega)) only [go_sem, reduceIte, reduceCtorEq, Nat.reduceAdd, Nat.reduceMul, Nat.reduceSub, Nat.reduceLeDiff, Nat.lt_irrefl, Nat.reduceLT, Nat.reduceEqDiff, Nat.reduceBEq, Int.reduceLE, Int.reduceLT, Int.reduceToNat, w64, eq_self, hp.get, hll, e3, e4, e4', e5])
      | (with_reducible refine AW_seq (fun K hK => ?_))
      | (with_reducible refine AW_region tyOk ?_)
      | ((with_reducible refine AW_quiet (id := 6) tyOk ?_ ?_ ?_); (kernel_rfl); (kernel_rfl))
      | (with_reducible refine AOps_cons (fun K hK => ?_))
      | (with_reducible refine AQOps_cons (fun K hK => ?_))
      | ((with_reducible refine AQOps_nil ?_); try simp only [thenA, blockA, if_true, if_false, reduceIte, Nat.reduceEqDiff, reduceCtorEq])
      | ((with_reducible refine AOps_nil ?_); try simp only [thenA, blockA, if_true, if_false, reduceIte, Nat.reduceEqDiff, reduceCtorEq])
      | (with_reducible refine AW_block ?_)
      | ((first | (with_reducible refine AW_ret ?_) | (with_reducible refine AW_skip ?_) | (with_reducible refine AW_exit ?_)); try simp only [thenA, blockA, if_true, if_false, reduceIte, Nat.reduceEqDiff, reduceCtorEq])
      | ((with_reducible show AW _ _ (.cond _ _ _) _ _ _); refine AW_cond rfl (fun hg => ?_) (fun hg => ?_) <;> first | (exfalso; simp only [reduceCtorEq] at hg; done) | ((try simp only [Bool.not_eq_true', Bool.not_eq_false', decide_eq_true_eq, decide_eq_false_iff_not] at hg); try (exfalso; omega)))
      | ((with_reducible show _ ∧ _); refine And.intro (fun hg => ?_) (fun hg => ?_) <;> (try simp only [Bool.not_eq_true', Bool.not_eq_false'] at hg) <;> simp only [hg] <;> (try simp only [decide_eq_true_eq, decide_eq_false_iff_not] at hg) <;> (try (exfalso; omega)))
      | ((first | (with_reducible apply FunH_intro) | (with_reducible apply AQ_intro)); (first | exact l00In_c _ _ _ _ | exact l02Finite_c _ _ _ (by first | assumption | exact RdL.app (by assumption) _ | exact RdL_hj rfl (by simp) | exact RdL_h0 rfl (by simp) | exact RdL_nil | exact RdL_emp) (by first | assumption | omega | (simp; omega) | (simp; done))))
      | (clear hK K)
      | fail)
    refine AW_loopV [2, 3, 47, 48, 49, 50, 51, 52, 53, 54, 55, 56, 57, 58, 59, 60, 61, 62, 63, 64, 65, 66, 67, 68, 69, 70, 71, 72, 73, 74] (fun k : Nat => [(47, .int .i64 (k : Nat))]) (fun _ => H) (fun k => k ≤ xss.length ∧ ∀ j, j < k → levP r (ix xss j) = true) (fun k => xss.length - k) 0 ⟨Nat.zero_le _, fun j hj => by omega⟩ ?_ rfl ?_
    · simp only [junkAll, setAll, List.foldl_cons, List.foldl_nil, List.set_cons_succ, List.set_cons_zero, JL, true_or, or_true, and_true, true_and, reduceCtorEq, false_or, or_false, LV.int.injEq, LV.bool.injEq, LV.flt.injEq, LV.sl.injEq, LV.ptr.injEq, eq_self, Int.natCast_add, Int.natCast_one, Int.natCast_zero, Int.ofNat_zero]
    · intro k ⟨hk, hq⟩ K hK
      simp only [junkAll, setAll, List.foldl_cons, List.foldl_nil, List.set_cons_succ, List.set_cons_zero]
      by_cases hks : k < xss.length
      · have hi := hL.at hks
        have hni := levP_len (r := r) hn hks
        by_cases h1 : ((ix xss k).length : Int) < r
        · cases h2 : (ix xss k).all finO
          · have h3 : levP r (ix xss k) = false := by simp [levP, h2]
            repeat' (first
              | ((with_reducible refine hK _ _ ?_); clear hK K)
              | ((with_reducible refine hK _ ?_); clear hK K; try simp only [])
              | ((first | (with_reducible show AOp _ _ _ _ _ _ _) | (with_reducible show AQOp _ _ _ _ _ _ _)); simp (disch := first | ((with_reducible show liveO _ _ _ = true); first | assumption | (exact liveO_setS (by assumption)) | (exact PtL.live (by assumption)) | (exact PtL.liveA (by assumption) _) | (simp only [go_sem]; done)) | omega | assumption | rfl | (simp only [go_sem]; first | done | omega)) only [go_sem, reduceIte, reduceCtorEq, Nat.reduceAdd, Nat.reduceMul, Nat.reduceSub, Nat.reduceLeDiff, Nat.lt_irrefl, Nat.reduceLT, Nat.reduceEqDiff, Nat.reduceBEq, Int.reduceLE, Int.reduceLT, Int.reduceToNat, w64, eq_self, hp.get, hll, h.idx, h.ldx, hi.lenm, h2])
              | (with_reducible refine AW_seq (fun K hK => ?_))
              | (with_reducible refine AW_region tyOk ?_)
              | ((with_reducible refine AW_quiet (id := 6) tyOk ?_ ?_ ?_); (kernel_rfl); (kernel_rfl))
              | (with_reducible refine AOps_cons (fun K hK => ?_))
              | (with_reducible refine AQOps_cons (fun K hK => ?_))
              | ((with_reducible refine AQOps_nil ?_); try simp only [thenA, blockA, if_true, if_false, reduceIte, Nat.reduceEqDiff, reduceCtorEq])
              | ((with_reducible refine AOps_nil ?_); try simp only [thenA, blockA, if_true, if_false, reduceIte, Nat.reduceEqDiff, reduceCtorEq])
              | (with_reducible refine AW_block ?_)
              | ((first | (with_reducible refine AW_ret ?_) | (with_reducible refine AW_skip ?_) | (with_reducible refine AW_exit ?_)); try simp only [thenA, blockA, if_true, if_false, reduceIte, Nat.reduceEqDiff, reduceCtorEq])
              | ((with_reducible show AW _ _ (.cond _ _ _) _ _ _); refine AW_cond rfl (fun hg => ?_) (fun hg => ?_) <;> first | (exfalso; simp only [reduceCtorEq] at hg; done) | ((try simp only [Bool.not_eq_true', Bool.not_eq_false', decide_eq_true_eq, decide_eq_false_iff_not] at hg); try (exfalso; omega)))
              | ((with_reducible show _ ∧ _); refine And.intro (fun hg => ?_) (fun hg => ?_) <;> (try simp only [Bool.not_eq_true', Bool.not_eq_false'] at hg) <;> simp only [hg] <;> (try simp only [decide_eq_true_eq, decide_eq_false_iff_not] at hg) <;> (try (exfalso; omega)))
              | ((first | (with_reducible apply FunH_intro) | (with_reducible apply AQ_intro)); (first | exact l00In_c _ _ _ _ | exact l02Finite_c _ _ _ (by first | assumption | exact RdL.app (by assumption) _ | exact RdL_hj rfl (by simp) | exact RdL_h0 rfl (by simp) | exact RdL_nil | exact RdL_emp) (by first | assumption | omega | (simp; omega) | (simp; done))))
              | (clear hK K)
              | fail)
            all_goals (first | refine EndA_cut hcl (by first | exact Or.inr rfl | exact Or.inl rfl) (by simp only [Try.results30, resA, aresL, go_sem, reduceIte, reduceCtorEq, Nat.reduceAdd, Nat.reduceMul, Nat.reduceSub, Nat.reduceLeDiff, Nat.lt_irrefl, Nat.reduceLT, Nat.reduceEqDiff, Nat.reduceBEq, Int.reduceLE, Int.reduceLT, Int.reduceToNat, w64, eq_self] <;> rfl) rfl ?_ | refine EndA_same (by first | exact Or.inr rfl | exact Or.inl rfl) (by simp only [Try.results30, resA, aresL, go_sem, reduceIte, reduceCtorEq, Nat.reduceAdd, Nat.reduceMul, Nat.reduceSub, Nat.reduceLeDiff, Nat.lt_irrefl, Nat.reduceLT, Nat.reduceEqDiff, Nat.reduceBEq, Int.reduceLE, Int.reduceLT, Int.reduceToNat, w64, eq_self] <;> rfl) ?_)
            all_goals exact ⟨by rw [not_all_of_ix hks h3], rfl⟩
          · have h3 : levP r (ix xss k) = true := by simp [levP, h2, h1]
            repeat' (first
              | ((with_reducible refine hK _ _ ?_); clear hK K)
              | ((with_reducible refine hK _ ?_); clear hK K; try simp only [])
              | ((first | (with_reducible show AOp _ _ _ _ _ _ _) | (with_reducible show AQOp _ _ _ _ _ _ _)); simp (disch := first | ((with_reducible show liveO _ _ _ = true); first | assumption | (exact liveO_setS (by assumption)) | (exact PtL.live (by assumption)) | (exact PtL.liveA (by assumption) _) | (simp only [go_sem]; done)) | omega | assumption | rfl | (simp only [go_sem]; first | done | omega)) only [go_sem, reduceIte, reduceCtorEq, Nat.reduceAdd, Nat.reduceMul, Nat.reduceSub, Nat.reduceLeDiff, Nat.lt_irrefl, Nat.reduceLT, Nat.reduceEqDiff, Nat.reduceBEq, Int.reduceLE, Int.reduceLT, Int.reduceToNat, w64, eq_self, hp.get, hll, h.idx, h.ldx, hi.lenm, h2])
              | (with_reducible refine AW_seq (fun K hK => ?_))
              | (with_reducible refine AW_region tyOk ?_)
              | ((with_reducible refine AW_quiet (id := 6) tyOk ?_ ?_ ?_); (kernel_rfl); (kernel_rfl))
              | (with_reducible refine AOps_cons (fun K hK => ?_))
              | (with_reducible refine AQOps_cons (fun K hK => ?_))
              | ((with_reducible refine AQOps_nil ?_); try simp only [thenA, blockA, if_true, if_false, reduceIte, Nat.reduceEqDiff, reduceCtorEq])
              | ((with_reducible refine AOps_nil ?_); try simp only [thenA, blockA, if_true, if_false, reduceIte, Nat.reduceEqDiff, reduceCtorEq])
              | (with_reducible refine AW_block ?_)
              | ((first | (with_reducible refine AW_ret ?_) | (with_reducible refine AW_skip ?_) | (with_reducible refine AW_exit ?_)); try simp only [thenA, blockA, if_true, if_false, reduceIte, Nat.reduceEqDiff, reduceCtorEq])
              | ((with_reducible show AW _ _ (.cond _ _ _) _ _ _); refine AW_cond rfl (fun hg => ?_) (fun hg => ?_) <;> first | (exfalso; simp only [reduceCtorEq] at hg; done) | ((try simp only [Bool.not_eq_true', Bool.not_eq_false', decide_eq_true_eq, decide_eq_false_iff_not] at hg); try (exfalso; omega)))
              | ((with_reducible show _ ∧ _); refine And.intro (fun hg => ?_) (fun hg => ?_) <;> (try simp only [Bool.not_eq_true', Bool.not_eq_false'] at hg) <;> simp only [hg] <;> (try simp only [decide_eq_true_eq, decide_eq_false_iff_not] at hg) <;> (try (exfalso; omega)))
              | ((first | (with_reducible apply FunH_intro) | (with_reducible apply AQ_intro)); (first | exact l00In_c _ _ _ _ | exact l02Finite_c _ _ _ (by first | assumption | exact RdL.app (by assumption) _ | exact RdL_hj rfl (by simp) | exact RdL_h0 rfl (by simp) | exact RdL_nil | exact RdL_emp) (by first | assumption | omega | (simp; omega) | (simp; done))))
              | (clear hK K)
              | fail)
            refine hK _ _ (k + 1) ⟨by omega, lt_succ_cases hq h3⟩ (by omega) ?_ rfl
            simp only [junkAll, setAll, List.foldl_cons, List.foldl_nil, List.set_cons_succ, List.set_cons_zero, JL, true_or, or_true, and_true, true_and, reduceCtorEq, false_or, or_false, LV.int.injEq, LV.bool.injEq, LV.flt.injEq, LV.sl.injEq, LV.ptr.injEq, eq_self, Int.natCast_add, Int.natCast_one, Int.natCast_zero, Int.ofNat_zero]
        · have h3 : levP r (ix xss k) = false := by simp [levP, h1]
          repeat' (first
            | ((with_reducible refine hK _ _ ?_); clear hK K)
            | ((with_reducible refine hK _ ?_); clear hK K; try simp only [])
            | ((first | (with_reducible show AOp _ _ _ _ _ _ _) | (with_reducible show AQOp _ _ _ _ _ _ _)); simp (disch := first | ((with_reducible show liveO _ _ _ = true); first | assumption | (exact liveO_setS (by assumption)) | (exact PtL.live (by assumption)) | (exact PtL.liveA (by assumption) _) | (simp only [go_sem]; done)) | omega | assumption | rfl | (simp only [go_sem]; first | done | omega)) only [go_sem, reduceIte, reduceCtorEq, Nat.reduceAdd, Nat.reduceMul, Nat.reduceSub, Nat.reduceLeDiff, Nat.lt_irrefl, Nat.reduceLT, Nat.reduceEqDiff, Nat.reduceBEq, Int.reduceLE, Int.reduceLT, Int.reduceToNat, w64, eq_self, hp.get, hll, h.idx, h.ldx, hi.lenm])
            | (with_reducible refine AW_seq (fun K hK => ?_))
            | (with_reducible refine AW_region tyOk ?_)
            | ((with_reducible refine AW_quiet (id := 6) tyOk ?_ ?_ ?_); (kernel_rfl); (kernel_rfl))
            | (with_reducible refine AOps_cons (fun K hK => ?_))
            | (with_reducible refine AQOps_cons (fun K hK => ?_))
            | ((with_reducible refine AQOps_nil ?_); try simp only [thenA, blockA, if_true, if_false, reduceIte, Nat.reduceEqDiff, reduceCtorEq])
            | ((with_reducible refine AOps_nil ?_); try simp only [thenA, blockA, if_true, if_false, reduceIte, Nat.reduceEqDiff, reduceCtorEq])
            | (with_reducible refine AW_block ?_)
            | ((first | (with_reducible refine AW_ret ?_) | (with_reducible refine AW_skip ?_) | (with_reducible refine AW_exit ?_)); try simp only [thenA, blockA, if_true, if_false, reduceIte, Nat.reduceEqDiff, reduceCtorEq])
            | ((with_reducible show AW _ _ (.cond _ _ _) _ _ _); refine AW_cond rfl (fun hg => ?_) (fun hg => ?_) <;> first | (exfalso; simp only [reduceCtorEq] at hg; done) | ((try simp only [Bool.not_eq_true', Bool.not_eq_false', decide_eq_true_eq, decide_eq_false_iff_not] at hg); try (exfalso; omega)))
            | ((with_reducible show _ ∧ _); refine And.intro (fun hg => ?_) (fun hg => ?_) <;> (try simp only [Bool.not_eq_true', Bool.not_eq_false'] at hg) <;> simp only [hg] <;> (try simp only [decide_eq_true_eq, decide_eq_false_iff_not] at hg) <;> (try (exfalso; omega)))
            | ((first | (with_reducible apply FunH_intro) | (with_reducible apply AQ_intro)); (first | exact l00In_c _ _ _ _ | exact l02Finite_c _ _ _ (by first | assumption | exact RdL.app (by assumption) _ | exact RdL_hj rfl (by simp) | exact RdL_h0 rfl (by simp) | exact RdL_nil | exact RdL_emp) (by first | assumption | omega | (simp; omega) | (simp; done))))
            | (clear hK K)
            | fail)
          all_goals (first | refine EndA_cut hcl (by first | exact Or.inr rfl | exact Or.inl rfl) (by simp only [Try.results30, resA, aresL, go_sem, reduceIte, reduceCtorEq, Nat.reduceAdd, Nat.reduceMul, Nat.reduceSub, Nat.reduceLeDiff, Nat.lt_irrefl, Nat.reduceLT, Nat.reduceEqDiff, Nat.reduceBEq, Int.reduceLE, Int.reduceLT, Int.reduceToNat, w64, eq_self] <;> rfl) rfl ?_ | refine EndA_same (by first | exact Or.inr rfl | exact Or.inl rfl) (by simp only [Try.results30, resA, aresL, go_sem, reduceIte, reduceCtorEq, Nat.reduceAdd, Nat.reduceMul, Nat.reduceSub, Nat.reduceLeDiff, Nat.lt_irrefl, Nat.reduceLT, Nat.reduceEqDiff, Nat.reduceBEq, Int.reduceLE, Int.reduceLT, Int.reduceToNat, w64, eq_self] <;> rfl) ?_)
          all_goals exact ⟨by rw [not_all_of_ix hks h3], rfl⟩
      · repeat' (first
          | ((with_reducible refine hK _ _ ?_); clear hK K)
          | ((with_reducible refine hK _ ?_); clear hK K; try simp only [])
          | ((first | (with_reducible show AOp _ _ _ _ _ _ _) | (with_reducible show AQOp _ _ _ _ _ _ _)); simp (disch := first | ((with_reducible show liveO _ _ _ = true); first | assumption | (exact liveO_setS (by assumption)) | (exact PtL.live (by assumption)) | (exact PtL.liveA (by assumption) _) | (simp only [go_sem]; done)) | omega | assumption | rfl | (simp only [go_sem]; first | done | omega)) only [go_sem, reduceIte, reduceCtorEq, Nat.reduceAdd, Nat.reduceMul, Nat.reduceSub, Nat.reduceLeDiff, Nat.lt_irrefl, Nat.reduceLT, Nat.reduceEqDiff, Nat.reduceBEq, Int.reduceLE, Int.reduceLT, Int.reduceToNat, w64, eq_self, hp.get, hll, h.idx, h.ldx])
          | (with_reducible refine AW_seq (fun K hK => ?_))
          | (with_reducible refine AW_region tyOk ?_)
          | ((with_reducible refine AW_quiet (id := 6) tyOk ?_ ?_ ?_); (kernel_rfl); (kernel_rfl))
          | (with_reducible refine AOps_cons (fun K hK => ?_))
          | (with_reducible refine AQOps_cons (fun K hK => ?_))
          | ((with_reducible refine AQOps_nil ?_); try simp only [thenA, blockA, if_true, if_false, reduceIte, Nat.reduceEqDiff, reduceCtorEq])
          | ((with_reducible refine AOps_nil ?_); try simp only [thenA, blockA, if_true, if_false, reduceIte, Nat.reduceEqDiff, reduceCtorEq])
          | (with_reducible refine AW_block ?_)
          | ((first | (with_reducible refine AW_ret ?_) | (with_reducible refine AW_skip ?_) | (with_reducible refine AW_exit ?_)); try simp only [thenA, blockA, if_true, if_false, reduceIte, Nat.reduceEqDiff, reduceCtorEq])
          | ((with_reducible show AW _ _ (.cond _ _ _) _ _ _); refine AW_cond rfl (fun hg => ?_) (fun hg => ?_) <;> first | (exfalso; simp only [reduceCtorEq] at hg; done) | ((try simp only [Bool.not_eq_true', Bool.not_eq_false', decide_eq_true_eq, decide_eq_false_iff_not] at hg); try (exfalso; omega)))
          | ((with_reducible show _ ∧ _); refine And.intro (fun hg => ?_) (fun hg => ?_) <;> (try simp only [Bool.not_eq_true', Bool.not_eq_false'] at hg) <;> simp only [hg] <;> (try simp only [decide_eq_true_eq, decide_eq_false_iff_not] at hg) <;> (try (exfalso; omega)))
          | ((first | (with_reducible apply FunH_intro) | (with_reducible apply AQ_intro)); (first | exact l00In_c _ _ _ _ | exact l02Finite_c _ _ _ (by first | assumption | exact RdL.app (by assumption) _ | exact RdL_hj rfl (by simp) | exact RdL_h0 rfl (by simp) | exact RdL_nil | exact RdL_emp) (by first | assumption | omega | (simp; omega) | (simp; done))))
          | (clear hK K)
          | fail)
        all_goals (first | refine EndA_cut hcl (by first | exact Or.inr rfl | exact Or.inl rfl) (by simp only [Try.results30, resA, aresL, go_sem, reduceIte, reduceCtorEq, Nat.reduceAdd, Nat.reduceMul, Nat.reduceSub, Nat.reduceLeDiff, Nat.lt_irrefl, Nat.reduceLT, Nat.reduceEqDiff, Nat.reduceBEq, Int.reduceLE, Int.reduceLT, Int.reduceToNat, w64, eq_self] <;> rfl) rfl ?_ | refine EndA_same (by first | exact Or.inr rfl | exact Or.inl rfl) (by simp only [Try.results30, resA, aresL, go_sem, reduceIte, reduceCtorEq, Nat.reduceAdd, Nat.reduceMul, Nat.reduceSub, Nat.reduceLeDiff, Nat.lt_irrefl, Nat.reduceLT, Nat.reduceEqDiff, Nat.reduceBEq, Int.reduceLE, Int.reduceLT, Int.reduceToNat, w64, eq_self] <;> rfl) ?_)
        all_goals exact ⟨by rw [all_of_ix fun j hj => hq j (by omega)], rfl⟩
theorem sValidLevels_c (r s : Int) (v : LV) (L : List LV) (xss : List (List (Option Nat))) (H : Hp) (h : RdL H v L) (hL : RdLL H L xss) (hn : totL xss ≤ 1048576) :
    FunH Try.prog 12 [.agg [.int .i64 r, .int .i64 s, v]] H fun r' H' => r' = .bool (levB r s xss) ∧ H' = H := by
  (refine FunH_body tyOk Try.func12 rfl (by kernel_rfl) Try.ntmps12 (fun hcl hbd => ?_); simp only [List.length_cons, List.length_nil, Nat.reduceAdd, Nat.reduceSub, List.replicate, List.cons_append, List.nil_append])
  repeat' (first
    | ((with_reducible refine hK _ _ ?_); clear hK K)
    | ((first | (with_reducible show AOp _ _ _ _ _ _ _)); simp (disch := first | ((with_reducible show liveO _ _ _ = true); first | assumption | (exact liveO_setS (by assumption)) | (exact PtL.live (by assumption)) | (exact PtL.liveA (by assumption) _) | (simp only [go_sem]; done)) | omega | assumption | rfl | (simp only [go_sem]; first | done | omega)) only [go_sem, reduceIte, reduceCtorEq, Nat.reduceAdd, Nat.reduceMul, Nat.reduceSub, Nat.reduceLeDiff, Nat.lt_irrefl, Nat.reduceLT, Nat.reduceEqDiff, Nat.reduceBEq, Int.reduceLE, Int.reduceLT, Int.reduceToNat, w64, eq_self, h.isCell])
    | (with_reducible refine AW_seq (fun K hK => ?_))
    | (with_reducible refine AW_region tyOk ?_)
    | (with_reducible refine AOps_cons (fun K hK => ?_))
    | ((with_reducible refine AOps_nil ?_); try simp only [thenA, blockA, if_true, if_false, reduceIte, Nat.reduceEqDiff, reduceCtorEq])
    | (with_reducible refine AW_block ?_)
    | ((first | (with_reducible refine AW_ret ?_) | (with_reducible refine AW_skip ?_) | (with_reducible refine AW_exit ?_)); try simp only [thenA, blockA, if_true, if_false, reduceIte, Nat.reduceEqDiff, reduceCtorEq])
    | ((with_reducible show AW _ _ (.cond _ _ _) _ _ _); refine AW_cond rfl (fun hg => ?_) (fun hg => ?_) <;> first | (exfalso; simp only [reduceCtorEq] at hg; done) | ((try simp only [Bool.not_eq_true', Bool.not_eq_false', decide_eq_true_eq, decide_eq_false_iff_not] at hg); try (exfalso; omega)))
    | ((with_reducible show _ ∧ _); refine And.intro (fun hg => ?_) (fun hg => ?_) <;> (try simp only [Bool.not_eq_true', Bool.not_eq_false'] at hg) <;> simp only [hg] <;> (try simp only [decide_eq_true_eq, decide_eq_false_iff_not] at hg) <;> (try (exfalso; omega)))
    | ((with_reducible apply FunH_intro); (first | exact l05Levels_c _ _ _ _ _ _ _ _ (PtL_h0 rfl) (h.app _) (hL.app _) hn | exact l05Levels_c _ _ _ _ _ _ _ _ (by first | assumption | exact PtL.app (by assumption) _ | exact PtL_h0 rfl | exact PtL_hj rfl) (by first | assumption | exact RdL.app (by assumption) _ | exact RdL_hj rfl (by simp) | exact RdL_h0 rfl (by simp) | exact RdL_nil | exact RdL_emp) (by first | assumption | exact RdLL.app (by assumption) _) (by first | assumption | omega | (simp; omega) | (simp; done))))
    | (clear hK K)
    | fail)
  all_goals (first | refine EndA_cut hcl (by first | exact Or.inr rfl | exact Or.inl rfl) (by simp only [Try.results12, resA, aresL, go_sem, reduceIte, reduceCtorEq, Nat.reduceAdd, Nat.reduceMul, Nat.reduceSub, Nat.reduceLeDiff, Nat.lt_irrefl, Nat.reduceLT, Nat.reduceEqDiff, Nat.reduceBEq, Int.reduceLE, Int.reduceLT, Int.reduceToNat, w64, eq_self] <;> rfl) rfl ?_ | refine EndA_same (by first | exact Or.inr rfl | exact Or.inl rfl) (by simp only [Try.results12, resA, aresL, go_sem, reduceIte, reduceCtorEq, Nat.reduceAdd, Nat.reduceMul, Nat.reduceSub, Nat.reduceLeDiff, Nat.lt_irrefl, Nat.reduceLT, Nat.reduceEqDiff, Nat.reduceBEq, Int.reduceLE, Int.reduceLT, Int.reduceToNat, w64, eq_self] <;> rfl) ?_)
  all_goals exact ⟨rfl, rfl⟩
/-! For how many numbers they stand. -/
def stS (p : Option Nat → Bool) (xss : List (List (Option Nat))) : Nat → Nat
  | 0 => 0
  | k + 1 => stS p xss k + (ix xss k).countP p * 2 ^ k
theorem stS_bound (p : Option Nat → Bool) (xss : List (List (Option Nat))) (h : ∀ j, j < xss.length → (ix xss j).length ≤ 64) : ∀ k, k ≤ xss.length → stS p xss k ≤ 64 * (2 ^ k - 1)
  | 0, _ => by simp [stS]
  | k + 1, hk => by
    have h1 := stS_bound p xss h k (by omega)
    have h2 : (ix xss k).countP p ≤ 64 := Nat.le_trans List.countP_le_length (h k (by omega))
    have h3 : (ix xss k).countP p * 2 ^ k ≤ 64 * 2 ^ k := Nat.mul_le_mul_right _ h2
    have h4 : 1 ≤ 2 ^ k := Nat.one_le_two_pow
    rw [stS, Nat.pow_succ]
    omega
theorem stS_fit (p : Option Nat → Bool) (xss : List (List (Option Nat))) (h : ∀ j, j < xss.length → (ix xss j).length ≤ 64) (hl : xss.length ≤ 16) {k : Nat} (hk : k ≤ xss.length) : stS p xss k ≤ 4194304 := by
  have h1 := stS_bound p xss h k hk
  have h2 : 2 ^ k ≤ 2 ^ 16 := Nat.pow_le_pow_right (by omega) (by omega)
  have h3 : 2 ^ 16 = 65536 := rfl
  omega
theorem levB_len {r s : Int} {xss : List (List (Option Nat))} (h : levB r s xss = true) : xss.length ≤ 16 ∧ 1 ≤ xss.length ∧ (∀ j, j < xss.length → (ix xss j).length ≤ 64) ∧ (∀ xs ∈ xss, xs.all finO = true) ∧ inB r 2 64 = true ∧ inB s 0 4294967295 = true ∧ r.tmod 2 = 0 ∧ (∀ j, j < xss.length → ((ix xss j).length : Int) < r) := by
  unfold levB at h
  simp only [Bool.and_eq_true, decide_eq_true_eq, List.all_eq_true] at h
  obtain ⟨⟨⟨⟨⟨h1, h2⟩, h3⟩, h4⟩, h5⟩, h6⟩ := h
  have hr : 2 ≤ r ∧ r ≤ 64 := by simpa [inB] using h1
  have h7 : ∀ xs ∈ xss, (xs.length : Int) < r ∧ xs.all finO = true := fun xs hx => by
    have := h6 xs hx
    unfold levP at this
    simpa using this
  refine ⟨h5, h4, fun j hj => ?_, fun xs hx => (h7 xs hx).2, h1, h3, by simpa using h2, fun j hj => (h7 _ (ix_mem _ _ hj)).1⟩
  have := (h7 _ (ix_mem _ _ hj)).1
  omega
end Go.Proofs.Yteejnmgjjefbiaa
