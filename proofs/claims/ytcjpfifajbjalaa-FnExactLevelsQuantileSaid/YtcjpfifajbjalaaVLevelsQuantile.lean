/- The walk of the law FnExactLevelsQuantile in the abstract machine. -/
import Derived.Test.YtcjpfifajbjalaaGx
namespace Go.Proofs.Ytcjpfifajbjalaa
open Go.RowKit
set_option linter.unusedSimpArgs false
set_option linter.unusedVariables false
set_option maxRecDepth 100000

set_option maxHeartbeats 4000000 in
theorem lawLevelsQuantile (r s : Int) (v : LV) (L : List LV) (xss : List (List (Option Nat))) (y0v : Option Nat) (H : Hp) (h : RdL H v L) (hL : RdLL H L xss) (hn : xss.length ≤ 9223372036854775807) (hg : goodF xss) (br : -9223372036854775808 ≤ r ∧ r ≤ 9223372036854775807) (bs : -9223372036854775808 ≤ s ∧ s ≤ 9223372036854775807) (fy0v : FOk y0v) :
    FunH Try.prog 11 [.agg [.int .i64 r, .int .i64 s, v], .flt .f32 y0v] H fun r H' => r = .bool true := by
  have hm : ∀ xs ∈ xss, xs.length ≤ 9223372036854775807 := fun xs hx => (hg xs hx).1
  by_cases hq : (1048576 : Int) < (totL xss : Nat)
  · have hs : szFF xss 1048576 = -1 := if_pos hq
    (refine FunH_body tyOk Try.func11 rfl (by kernel_rfl) Try.ntmps11 (fun hcl hbd => ?_); simp only [List.length_cons, List.length_nil, Nat.reduceAdd, Nat.reduceSub, List.replicate, List.cons_append, List.nil_append])
    repeat' (first
      | ((with_reducible refine hK _ _ ?_); clear hK K)
      | ((with_reducible refine hK _ ?_); clear hK K; try simp only [])
      | ((first | (with_reducible show AOp _ _ _ _ _ _ _) | (with_reducible show AQOp _ _ _ _ _ _ _)); simp (disch := first | ((with_reducible show liveO _ _ _ = true); first | assumption | (exact liveO_setS (by assumption)) | (exact PtL.live (by assumption)) | (exact PtL.liveA (by assumption) _) | (simp only [go_sem]; done)) | omega | assumption | rfl | (simp only [go_sem]; first | done | omega)) only [go_sem, reduceIte, reduceCtorEq, Nat.reduceAdd, Nat.reduceMul, Nat.reduceSub, Nat.reduceLeDiff, Nat.lt_irrefl, Nat.reduceLT, Nat.reduceEqDiff, Nat.reduceBEq, Int.reduceLE, Int.reduceLT, Int.reduceToNat, w64, eq_self, hs, h.isCell])
      | (with_reducible refine AW_seq (fun K hK => ?_))
      | (with_reducible refine AW_region tyOk ?_)
      | ((with_reducible apply AW_tree (id := 10) tyOk 5); (kernel_rfl); (exact rfl))
      | ((with_reducible refine AAny_leaf (by decide +kernel) ?_); exact ⟨rfl, rfl⟩)
      | (with_reducible refine AAny_step 0 [1] (by decide +kernel) ?_)
      | (with_reducible refine AAny_step 0 [2] (by decide +kernel) ?_)
      | (with_reducible refine AAny_step 0 [] (by decide +kernel) ?_)
      | (with_reducible refine AAny_step 1 [] (by decide +kernel) ?_)
      | (with_reducible refine AAny_step 2 [] (by decide +kernel) ?_)
      | (with_reducible refine AAny_step 3 [] (by decide +kernel) ?_)
      | (with_reducible refine AAny_step 4 [] (by decide +kernel) ?_)
      | (with_reducible refine AAll_cons rfl (fun K hK => ?_) ?_)
      | (with_reducible exact AAll_nil)
      | ((with_reducible show thenA _ _ _ _ _); simp only [thenA, blockA, if_true, if_false, reduceIte])
      | (with_reducible refine AOps_cons (fun K hK => ?_))
      | (with_reducible refine AQOps_cons (fun K hK => ?_))
      | ((with_reducible refine AQOps_nil ?_); try simp only [thenA, blockA, if_true, if_false, reduceIte, Nat.reduceEqDiff, reduceCtorEq])
      | ((with_reducible refine AOps_nil ?_); try simp only [thenA, blockA, if_true, if_false, reduceIte, Nat.reduceEqDiff, reduceCtorEq])
      | (with_reducible refine AW_block ?_)
      | ((first | (with_reducible refine AW_ret ?_) | (with_reducible refine AW_skip ?_) | (with_reducible refine AW_exit ?_)); try simp only [thenA, blockA, if_true, if_false, reduceIte, Nat.reduceEqDiff, reduceCtorEq])
      | ((with_reducible show AW _ _ (.cond _ _ _) _ _ _); refine AW_cond rfl (fun hg => ?_) (fun hg => ?_) <;> first | (exfalso; simp only [reduceCtorEq] at hg; done) | ((try simp only [Bool.not_eq_true', Bool.not_eq_false', decide_eq_true_eq, decide_eq_false_iff_not] at hg); try (exfalso; omega)))
      | ((with_reducible show _ ∧ _); refine And.intro (fun hg => ?_) (fun hg => ?_) <;> (try simp only [Bool.not_eq_true', Bool.not_eq_false'] at hg) <;> simp only [hg] <;> (try simp only [decide_eq_true_eq, decide_eq_false_iff_not] at hg) <;> (try (exfalso; omega)))
      | ((first | (with_reducible apply FunH_intro) | (with_reducible apply AQ_intro)); (first | exact szLevels_c _ _ _ _ _ _ (by first | assumption | omega | (simp; omega) | (simp; done)) (by first | assumption | omega | (simp; omega) | (simp; done)) _ (by first | assumption | exact RdL.app (by assumption) _ | exact RdL_hj rfl (by simp) | exact RdL_h0 rfl (by simp) | exact RdL_nil | exact RdL_emp) (by first | assumption | exact RdLL.app (by assumption) _) (by first | assumption | omega | (simp; omega) | (simp; done)) (by first | assumption | (simp; done)) | exact eqLevels_c _ _ _ _ _ _ _ _ (by first | assumption | exact RdL.app (by assumption) _ | exact RdL_hj rfl (by simp) | exact RdL_h0 rfl (by simp) | exact RdL_nil | exact RdL_emp) (by first | assumption | exact RdLL.app (by assumption) _) (by first | assumption | exact RdL.app (by assumption) _ | exact RdL_hj rfl (by simp) | exact RdL_h0 rfl (by simp) | exact RdL_nil | exact RdL_emp) (by first | assumption | exact RdLL.app (by assumption) _) (by first | assumption | omega | (simp; omega) | (simp; done)) | exact eqLv _ _ _ (by first | assumption | omega | (simp; omega) | (simp; done)) _ (by first | assumption | omega | (simp; omega) | (simp; done)) (by first | assumption | omega | (simp; omega) | (simp; done)) (by first | rfl | assumption | omega | (simp; done)) | exact iLevelsQuantile_c _ _ _ _ _ _ _ (by first | assumption | exact RdL.app (by assumption) _ | exact RdL_hj rfl (by simp) | exact RdL_h0 rfl (by simp) | exact RdL_nil | exact RdL_emp) (by first | assumption | exact RdLL.app (by assumption) _) (by first | assumption | omega | (simp; omega) | (simp; done)) | exact sLevelsQuantile_c _ _ _ _ _ _ _ (by first | assumption | exact RdL.app (by assumption) _ | exact RdL_hj rfl (by simp) | exact RdL_h0 rfl (by simp) | exact RdL_nil | exact RdL_emp) (by first | assumption | exact RdLL.app (by assumption) _) (by first | assumption | omega | (simp; omega) | (simp; done)) | exact sameFloat_c _ _))
      | (clear hK K)
      | fail)
    all_goals try (exfalso; omega)
    all_goals (first | refine EndA_cut hcl (by first | exact Or.inr rfl | exact Or.inl rfl) (by simp only [Try.results11, resA, aresL, go_sem, reduceIte, reduceCtorEq, Nat.reduceAdd, Nat.reduceMul, Nat.reduceSub, Nat.reduceLeDiff, Nat.lt_irrefl, Nat.reduceLT, Nat.reduceEqDiff, Nat.reduceBEq, Int.reduceLE, Int.reduceLT, Int.reduceToNat, w64, eq_self] <;> rfl) rfl ?_ | refine EndA_same (by first | exact Or.inr rfl | exact Or.inl rfl) (by simp only [Try.results11, resA, aresL, go_sem, reduceIte, reduceCtorEq, Nat.reduceAdd, Nat.reduceMul, Nat.reduceSub, Nat.reduceLeDiff, Nat.lt_irrefl, Nat.reduceLT, Nat.reduceEqDiff, Nat.reduceBEq, Int.reduceLE, Int.reduceLT, Int.reduceToNat, w64, eq_self] <;> rfl) ?_)
    all_goals rfl
  have hs : szFF xss 1048576 = 1048576 - (totL xss : Nat) := if_neg hq
  have ht : totL xss ≤ 1048576 := by omega
  obtain ⟨v1, L1, K1, a1, b1, c1⟩ := toLevels_ex r s v L xss (H ++ [(⟨0, false, 90, 3, [.int .i64 r, .int .i64 s, v]⟩ : AO)]) (h.app _) (hL.app _) ht
  obtain ⟨H1, e1⟩ : ∃ H1, H ++ [(⟨0, false, 90, 3, [.int .i64 r, .int .i64 s, v]⟩ : AO)] ++ K1 = H1 := ⟨_, rfl⟩
  rw [e1] at a1 b1 c1
  have hh1 : RdL H1 v L := by rw [← e1]; exact (h.app _).app _
  have hhL1 : RdLL H1 L xss := by rw [← e1]; exact (hL.app _).app _
  obtain ⟨v2, L2, K2, a2, b2, c2⟩ := toLevels_ex r s v L xss H1 hh1 hhL1 ht
  obtain ⟨H2, e2⟩ : ∃ H2, H1 ++ K2 = H2 := ⟨_, rfl⟩
  rw [e2] at a2 b2 c2
  have hh2 : RdL H2 v L := by rw [← e2]; exact hh1.app _
  have hhL2 : RdLL H2 L xss := by rw [← e2]; exact hhL1.app _
  obtain ⟨v3, L3, K3, a3, b3, c3⟩ := toLevels_ex r s v L xss (H2 ++ [(⟨0, false, 92, 3, [.int .i64 r, .int .i64 s, v2]⟩ : AO)]) (hh2.app _) (hhL2.app _) ht
  obtain ⟨H3, e3⟩ : ∃ H3, H2 ++ [(⟨0, false, 92, 3, [.int .i64 r, .int .i64 s, v2]⟩ : AO)] ++ K3 = H3 := ⟨_, rfl⟩
  rw [e3] at a3 b3 c3
  have a2q : RdL H3 v2 L2 := by rw [← e3]; exact (a2.app _).app _
  have b2q : RdLL H3 L2 xss := by rw [← e3]; exact (b2.app _).app _
  have p1 : PtL H1 H.length 0 [.int .i64 r, .int .i64 s, v] := by rw [← e1]; exact (PtL_h0 rfl).app _
  have p2 : PtL H2 H.length 0 [.int .i64 r, .int .i64 s, v] := by rw [← e2]; exact p1.app _
  have p3 : PtL H3 H.length 0 [.int .i64 r, .int .i64 s, v] := by rw [← e3]; exact (p2.app _).app _
  have x3 : PtL H3 H2.length 0 [.int .i64 r, .int .i64 s, v2] := by rw [← e3]; exact (PtL_h0 rfl).app _
  have g1 := p1.gets (n := 3) rfl
  have g2 := p2.gets (n := 3) rfl
  have g2q := fun K => p2.getsA K (n := 3) rfl
  have g3 := p3.gets (n := 3) rfl
  have y3 := x3.gets (n := 3) rfl
  (refine FunH_body tyOk Try.func11 rfl (by kernel_rfl) Try.ntmps11 (fun hcl hbd => ?_); simp only [List.length_cons, List.length_nil, Nat.reduceAdd, Nat.reduceSub, List.replicate, List.cons_append, List.nil_append])
  repeat' (first
    | ((with_reducible refine hK _ _ ?_); clear hK K)
    | ((with_reducible refine hK _ ?_); clear hK K; try simp only [])
    | ((first | (with_reducible show AOp _ _ _ _ _ _ _) | (with_reducible show AQOp _ _ _ _ _ _ _)); simp (disch := first | ((with_reducible show liveO _ _ _ = true); first | assumption | (exact liveO_setS (by assumption)) | (exact PtL.live (by assumption)) | (exact PtL.liveA (by assumption) _) | (simp only [go_sem]; done)) | omega | assumption | rfl | (simp only [go_sem]; first | done | omega)) only [go_sem, reduceIte, reduceCtorEq, Nat.reduceAdd, Nat.reduceMul, Nat.reduceSub, Nat.reduceLeDiff, Nat.lt_irrefl, Nat.reduceLT, Nat.reduceEqDiff, Nat.reduceBEq, Int.reduceLE, Int.reduceLT, Int.reduceToNat, w64, eq_self, hs, g1, g2, g2q, g3, y3, h.isCell, a1.isCell, a2.isCell, a3.isCell, cvC32, bne_self_eq_false, beq_self_eq_true])
    | (with_reducible refine AW_seq (fun K hK => ?_))
    | (with_reducible refine AW_region tyOk ?_)
    | ((with_reducible apply AW_tree (id := 10) tyOk 5); (kernel_rfl); (exact rfl))
    | ((with_reducible refine AAny_leaf (by decide +kernel) ?_); exact ⟨rfl, rfl⟩)
    | (with_reducible refine AAny_step 0 [1] (by decide +kernel) ?_)
    | (with_reducible refine AAny_step 0 [2] (by decide +kernel) ?_)
    | (with_reducible refine AAny_step 0 [] (by decide +kernel) ?_)
    | (with_reducible refine AAny_step 1 [] (by decide +kernel) ?_)
    | (with_reducible refine AAny_step 2 [] (by decide +kernel) ?_)
    | (with_reducible refine AAny_step 3 [] (by decide +kernel) ?_)
    | (with_reducible refine AAny_step 4 [] (by decide +kernel) ?_)
    | (with_reducible refine AAll_cons rfl (fun K hK => ?_) ?_)
    | (with_reducible exact AAll_nil)
    | ((with_reducible show thenA _ _ _ _ _); simp only [thenA, blockA, if_true, if_false, reduceIte])
    | (with_reducible refine AOps_cons (fun K hK => ?_))
    | (with_reducible refine AQOps_cons (fun K hK => ?_))
    | ((with_reducible refine AQOps_nil ?_); try simp only [thenA, blockA, if_true, if_false, reduceIte, Nat.reduceEqDiff, reduceCtorEq])
    | ((with_reducible refine AOps_nil ?_); try simp only [thenA, blockA, if_true, if_false, reduceIte, Nat.reduceEqDiff, reduceCtorEq])
    | (with_reducible refine AW_block ?_)
    | ((first | (with_reducible refine AW_ret ?_) | (with_reducible refine AW_skip ?_) | (with_reducible refine AW_exit ?_)); try simp only [thenA, blockA, if_true, if_false, reduceIte, Nat.reduceEqDiff, reduceCtorEq])
    | ((with_reducible show AW _ _ (.cond _ _ _) _ _ _); refine AW_cond rfl (fun hg => ?_) (fun hg => ?_) <;> first | (exfalso; simp only [reduceCtorEq] at hg; done) | ((try simp only [Bool.not_eq_true', Bool.not_eq_false', decide_eq_true_eq, decide_eq_false_iff_not] at hg); try (exfalso; omega)))
    | ((with_reducible show _ ∧ _); refine And.intro (fun hg => ?_) (fun hg => ?_) <;> (try simp only [Bool.not_eq_true', Bool.not_eq_false'] at hg) <;> simp only [hg] <;> (try simp only [decide_eq_true_eq, decide_eq_false_iff_not] at hg) <;> (try (exfalso; omega)))
    | ((first | (with_reducible apply FunH_intro) | (with_reducible apply AQ_intro)); (first | exact c1 | exact c2 | exact c3 | exact sameFloat_c _ _ | exact szLevels_c _ _ _ _ _ _ (by first | assumption | omega | (simp; omega) | (simp; done)) (by first | assumption | omega | (simp; omega) | (simp; done)) _ (by first | assumption | exact RdL.app (by assumption) _ | exact RdL_hj rfl (by simp) | exact RdL_h0 rfl (by simp) | exact RdL_nil | exact RdL_emp) (by first | assumption | exact RdLL.app (by assumption) _) (by first | assumption | omega | (simp; omega) | (simp; done)) (by first | assumption | (simp; done)) | exact eqLevels_c _ _ _ _ _ _ _ _ (by first | assumption | exact RdL.app (by assumption) _ | exact RdL_hj rfl (by simp) | exact RdL_h0 rfl (by simp) | exact RdL_nil | exact RdL_emp) (by first | assumption | exact RdLL.app (by assumption) _) (by first | assumption | exact RdL.app (by assumption) _ | exact RdL_hj rfl (by simp) | exact RdL_h0 rfl (by simp) | exact RdL_nil | exact RdL_emp) (by first | assumption | exact RdLL.app (by assumption) _) (by first | assumption | omega | (simp; omega) | (simp; done)) | exact eqLv _ _ _ (by first | assumption | omega | (simp; omega) | (simp; done)) _ (by first | assumption | omega | (simp; omega) | (simp; done)) (by first | assumption | omega | (simp; omega) | (simp; done)) (by first | rfl | assumption | omega | (simp; done)) | exact iLevelsQuantile_c _ _ _ _ _ _ _ (by first | assumption | exact RdL.app (by assumption) _ | exact RdL_hj rfl (by simp) | exact RdL_h0 rfl (by simp) | exact RdL_nil | exact RdL_emp) (by first | assumption | exact RdLL.app (by assumption) _) (by first | assumption | omega | (simp; omega) | (simp; done)) | exact sLevelsQuantile_c _ _ _ _ _ _ _ (by first | assumption | exact RdL.app (by assumption) _ | exact RdL_hj rfl (by simp) | exact RdL_h0 rfl (by simp) | exact RdL_nil | exact RdL_emp) (by first | assumption | exact RdLL.app (by assumption) _) (by first | assumption | omega | (simp; omega) | (simp; done)) | exact sameFloat_c _ _))
    | (clear hK K)
    | fail)
  all_goals try (exfalso; first | omega | (simp at hg; done))
  all_goals (first | refine EndA_cut hcl (by first | exact Or.inr rfl | exact Or.inl rfl) (by simp only [Try.results11, resA, aresL, go_sem, reduceIte, reduceCtorEq, Nat.reduceAdd, Nat.reduceMul, Nat.reduceSub, Nat.reduceLeDiff, Nat.lt_irrefl, Nat.reduceLT, Nat.reduceEqDiff, Nat.reduceBEq, Int.reduceLE, Int.reduceLT, Int.reduceToNat, w64, eq_self] <;> rfl) rfl ?_ | refine EndA_same (by first | exact Or.inr rfl | exact Or.inl rfl) (by simp only [Try.results11, resA, aresL, go_sem, reduceIte, reduceCtorEq, Nat.reduceAdd, Nat.reduceMul, Nat.reduceSub, Nat.reduceLeDiff, Nat.lt_irrefl, Nat.reduceLT, Nat.reduceEqDiff, Nat.reduceBEq, Int.reduceLE, Int.reduceLT, Int.reduceToNat, w64, eq_self] <;> rfl) ?_)
  all_goals rfl
end Go.Proofs.Ytcjpfifajbjalaa
