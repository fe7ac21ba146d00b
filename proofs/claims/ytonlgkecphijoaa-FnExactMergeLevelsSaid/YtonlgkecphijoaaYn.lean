/- Levels in the laws: new objects told by the heap's length alone. -/
import Derived.Test.YtonlgkecphijoaaYi
namespace Go.Proofs.Ytonlgkecphijoaa
open Go.RowKit
set_option linter.unusedSimpArgs false
set_option linter.unusedVariables false
set_option maxRecDepth 100000

theorem toLevels_exN (n : Nat) (r s : Int) (v : LV) (L : List LV) (xss : List (List (Option Nat))) (hn : totL xss ≤ 1048576) :
    ∃ (A : Nat) (Q : List (Nat × List LV)) (K : Hp), Q.map Prod.snd = (xss.map fun xs => xs.map (LV.flt .f32)) ∧ 1 ≤ K.length ∧ ∀ H : Hp, H.length = n → RdL H v L → RdLL H L xss →
      Lv (H ++ K) n (H ++ K).length A Q ∧ FunH Try.prog 7 [.agg [.int .i64 r, .int .i64 s, v]] H fun r' H' => r' = .agg [.int .i64 r, .int .i64 s, .sl A 0 0 xss.length none] ∧ H' = H ++ K := by
  refine ⟨n + 3, qOf (n + (3 + 1)) xss, [⟨0, false, 24, 3, [.int .i64 r, .int .i64 s, v]⟩, ⟨0, false, 27, 3, [.int .i64 r, .int .i64 s, .sl (n + 3) 0 0 xss.length none]⟩, ⟨0, false, 27, 3, [.int .i64 r, .int .i64 s, .sl (n + 3) 0 0 xss.length none]⟩, ⟨0, false, 41, 1, rowsL (n + 4) xss⟩] ++ xss.map rowF, qOf_snd _ _, by simp only [List.length_append, List.length_cons, List.length_nil]; omega, fun H hH h hL => ?_⟩
  subst hH
  refine ⟨Lv.of rfl (fun k hk => ?_), ?_⟩
  · rw [List.getElem?_append_right (by simp only [List.length_cons, List.length_nil]; omega)]
    simp only [List.length_cons, List.length_nil, Nat.zero_add, Nat.reduceAdd, Nat.add_sub_cancel_left, List.getElem?_map, ix_get? _ _ hk]
    rfl
  · (refine FunH_body tyOk Try.func7 rfl (by kernel_rfl) Try.ntmps7 (fun hcl hbd => ?_); simp only [List.length_cons, List.length_nil, Nat.reduceAdd, Nat.reduceSub, List.replicate, List.cons_append, List.nil_append])
    repeat' (first
      | ((with_reducible refine hK _ _ ?_); clear hK K)
      | ((first | (with_reducible show AOp _ _ _ _ _ _ _)); simp (disch := first | ((with_reducible show liveO _ _ _ = true); first | assumption | (exact liveO_setS (by assumption)) | (exact PtL.live (by assumption)) | (exact PtL.liveA (by assumption) _) | (simp only [go_sem]; done)) | omega | assumption | rfl | (simp only [go_sem]; first | done | omega)) only [go_sem, reduceIte, reduceCtorEq, Nat.reduceAdd, Nat.reduceMul, Nat.reduceSub, Nat.reduceLeDiff, Nat.lt_irrefl, Nat.reduceLT, Nat.reduceEqDiff, Nat.reduceBEq, Int.reduceLE, Int.reduceLT, Int.reduceToNat, w64, eq_self, h.isCell])
      | (with_reducible refine AW_seq (fun K hK => ?_))
      | (with_reducible refine AW_region tyOk ?_)
      | (with_reducible refine AOps_cons (fun K hK => ?_))
      | ((with_reducible refine AOps_nil ?_); try simp only [thenA, blockA, if_true, if_false, reduceIte, Nat.reduceEqDiff, reduceCtorEq])
      | (with_reducible refine AW_block ?_)
      | ((first | (with_reducible refine AW_ret ?_) | (with_reducible refine AW_skip ?_) | (with_reducible refine AW_exit ?_)); try simp only [thenA, blockA, if_true, if_false, reduceIte, Nat.reduceEqDiff, reduceCtorEq])
      | ((with_reducible show AW _ _ (.cond _ _ _) _ _ _); refine AW_cond rfl (fun hg => ?_) (fun hg => ?_) <;> first | (exfalso; simp only [reduceCtorEq] at hg; done) | ((try simp only [Bool.not_eq_true', Bool.not_eq_false', decide_eq_true_eq, decide_eq_false_iff_not] at hg); try (exfalso; omega)))
      | ((with_reducible show _ ∧ _); refine And.intro (fun hg => ?_) (fun hg => ?_) <;> (try simp only [Bool.not_eq_true', Bool.not_eq_false'] at hg) <;> simp only [hg] <;> (try simp only [decide_eq_true_eq, decide_eq_false_iff_not] at hg) <;> (try (exfalso; omega)))
      | ((with_reducible apply FunH_intro); (first | exact toFloat32SS_c _ _ _ _ (by first | assumption | exact RdL.app (by assumption) _ | exact RdL_hj rfl (by simp) | exact RdL_h0 rfl (by simp) | exact RdL_nil | exact RdL_emp) (by first | assumption | exact RdLL.app (by assumption) _) (by first | assumption | omega | (simp; omega) | (simp; done))))
      | (clear hK K)
      | fail)
    all_goals (first | refine EndA_cut hcl (by first | exact Or.inr rfl | exact Or.inl rfl) (by simp only [Try.results7, resA, aresL, go_sem, reduceIte, reduceCtorEq, Nat.reduceAdd, Nat.reduceMul, Nat.reduceSub, Nat.reduceLeDiff, Nat.lt_irrefl, Nat.reduceLT, Nat.reduceEqDiff, Nat.reduceBEq, Int.reduceLE, Int.reduceLT, Int.reduceToNat, w64, eq_self] <;> rfl) rfl ?_ | refine EndA_same (by first | exact Or.inr rfl | exact Or.inl rfl) (by simp only [Try.results7, resA, aresL, go_sem, reduceIte, reduceCtorEq, Nat.reduceAdd, Nat.reduceMul, Nat.reduceSub, Nat.reduceLeDiff, Nat.lt_irrefl, Nat.reduceLT, Nat.reduceEqDiff, Nat.reduceBEq, Int.reduceLE, Int.reduceLT, Int.reduceToNat, w64, eq_self] <;> rfl) ?_)
    all_goals exact ⟨rfl, rfl⟩
theorem plQ_exN (n : Nat) (r : Int) (ok : Bool) (R : List (List Nat) × Int) :
    ∃ (Q : List (Nat × List LV)) (K : Hp), Q.map Prod.snd = ((stX ok R).map fun xs => xs.map (LV.flt .f32)) ∧ 1 ≤ K.length ∧ ∀ (F : FuncId) (args : List LV) (H : Hp), H.length = n → FunH Try.prog F args H (plQ H r ok R) →
      Lv (H ++ K) n (H ++ K).length n Q ∧ FunH Try.prog F args H fun r' H' => r' = .tup [.agg [.int .i64 (if ok then r else 0), .int .i64 (if ok then R.2 else 0), .sl n 0 0 (stX ok R).length none], .bool ok] ∧ H' = H ++ K := by
  refine ⟨qOf (n + (0 + 1)) (stX ok R), ⟨0, false, 41, 1, rowsL (n + 1) (stX ok R)⟩ :: (stX ok R).map rowF, qOf_snd _ _, by simp only [List.length_cons]; omega, fun F args H hH h => ?_⟩
  subst hH
  refine ⟨?_, h⟩
  exact Lv.of (H := H) (a := 0) (xss := stX ok R) (G := ⟨0, false, 41, 1, rowsL (H.length + 1) (stX ok R)⟩ :: (stX ok R).map rowF) rfl (fun k hk => by
    rw [show 0 + 1 + k = k + 1 by omega, List.getElem?_cons_succ, List.getElem?_map, ix_get? _ _ hk]; rfl)
/-- An object that is no row changed. -/
theorem Lv.setO {X : Hp} {lo hi A : Nat} {Q : List (Nat × List LV)} (h : Lv X lo hi A Q) {i : Nat} (o : AO) (hn : ¬ (lo ≤ i ∧ i < hi)) : Lv (X.set i o) lo hi A Q :=
  h.frame fun j h1 h2 => List.getElem?_set_ne (by omega)
theorem PtL.setO {X : Hp} {id ver i : Nat} {cs : List LV} (h : PtL X id ver cs) (o : AO) (hn : id ≠ i) : PtL (X.set i o) id ver cs := by
  obtain ⟨ro, el, sz, e⟩ := h
  exact ⟨ro, el, sz, by rw [List.getElem?_set_ne (Ne.symm hn)]; exact e⟩
theorem pre_setO {H X : Hp} (hp : ∃ K, X = H ++ K) {i : Nat} (hi : H.length ≤ i) (o : AO) : ∃ K, X.set i o = H ++ K := pre_set hp hi o
end Go.Proofs.Ytonlgkecphijoaa
