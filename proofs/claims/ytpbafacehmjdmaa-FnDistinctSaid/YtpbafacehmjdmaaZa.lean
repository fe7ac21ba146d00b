/- Zeros that are valid, in the abstract machine. -/
import Derived.Test.YtpbafacehmjdmaaDb
import Derived.Test.YtpbafacehmjdmaaBm
import Derived.Test.YtpbafacehmjdmaaZo
namespace Go.Proofs.Ytpbafacehmjdmaa
open Go.RowKit
set_option linter.unusedSimpArgs false
set_option linter.unusedVariables false
set_option maxRecDepth 100000

theorem pow16_in (n : Int) : (inB n 16 256 && decide (ibits .and .i64 n (n - 1) = 0)) = pow16B n := by
  have hp := powB_iff n
  unfold powB at hp
  rw [Bool.eq_iff_iff]
  unfold pow16B
  simp only [inB, Bool.and_eq_true, decide_eq_true_eq, List.any_eq_true, List.mem_range] at hp ⊢
  constructor
  · rintro ⟨⟨h1, h2⟩, h3⟩
    obtain ⟨k, hk, rfl⟩ := hp.1 ⟨⟨by omega, by omega⟩, h3⟩
    have a1 : 2 ^ 4 ≤ 2 ^ k := by omega
    have a2 : 2 ^ k ≤ 2 ^ 8 := by omega
    have b1 := (Nat.pow_le_pow_iff_right (by omega : 1 < 2)).1 a1
    have b2 := (Nat.pow_le_pow_iff_right (by omega : 1 < 2)).1 a2
    exact ⟨k - 4, by omega, by rw [show 4 + (k - 4) = k by omega]⟩
  · rintro ⟨k, hk, rfl⟩
    have a1 : 2 ^ 4 ≤ 2 ^ (4 + k) := Nat.pow_le_pow_right (by omega) (by omega)
    have a2 : 2 ^ (4 + k) ≤ 2 ^ 8 := Nat.pow_le_pow_right (by omega) (by omega)
    exact ⟨⟨by omega, by omega⟩, (hp.2 ⟨4 + k, by omega, rfl⟩).2⟩
theorem pow16_len {n : Nat} (h : pow16B (n : Int) = true) : n = 16 ∨ n = 32 ∨ n = 64 ∨ n = 128 ∨ n = 256 := by
  unfold pow16B at h
  simp only [List.any_eq_true, List.mem_range, decide_eq_true_eq] at h
  obtain ⟨k, hk, e⟩ := h
  rcases (by omega : k = 0 ∨ k = 1 ∨ k = 2 ∨ k = 3 ∨ k = 4) with rfl | rfl | rfl | rfl | rfl <;> simp at e <;> omega
def zerB (s : Int) (cs : List Int) : Bool := keyB s && pow16B (cs.length : Nat) && cs.all fun x => inB x 0 33
theorem isPow16_c (n : Int) (h0 : 0 ≤ n) (h1 : n ≤ 9223372036854775807) (H : Hp) : FunH Try.prog 27 [.int .i64 n, .int .i64 16, .int .i64 256] H fun r H' => r = .bool (pow16B n) ∧ H' = H := by
  rw [← pow16_in]
  (refine FunH_body tyOk Try.func27 rfl (by kernel_rfl) Try.ntmps27 (fun hcl hbd => ?_); simp only [List.length_cons, List.length_nil, Nat.reduceAdd, Nat.reduceSub, List.replicate, List.cons_append, List.nil_append])
  repeat' (first
    | ((with_reducible refine hK _ _ ?_); clear hK K)
    | ((first | (with_reducible show AOp _ _ _ _ _ _ _)); simp (disch := first | ((with_reducible show liveO _ _ _ = true); first | assumption | (exact liveO_setS (by assumption)) | (exact PtL.live (by assumption)) | (exact PtL.liveA (by assumption) _) | (simp only [go_sem]; done)) | omega | assumption | rfl | (simp only [go_sem]; first | done | omega)) only [go_sem, reduceIte, reduceCtorEq, Nat.reduceAdd, Nat.reduceMul, Nat.reduceSub, Nat.reduceLeDiff, Nat.lt_irrefl, Nat.reduceLT, Nat.reduceEqDiff, Nat.reduceBEq, Int.reduceLE, Int.reduceLT, Int.reduceToNat, w64, eq_self])
    | (with_reducible refine AW_seq (fun K hK => ?_))
    | (with_reducible refine AW_region tyOk ?_)
    | (with_reducible refine AOps_cons (fun K hK => ?_))
    | ((with_reducible refine AOps_nil ?_); try simp only [thenA, blockA, if_true, if_false, reduceIte, Nat.reduceEqDiff, reduceCtorEq])
    | (with_reducible refine AW_block ?_)
    | ((first | (with_reducible refine AW_ret ?_) | (with_reducible refine AW_skip ?_) | (with_reducible refine AW_exit ?_)); try simp only [thenA, blockA, if_true, if_false, reduceIte, Nat.reduceEqDiff, reduceCtorEq])
    | ((with_reducible show AW _ _ (.cond _ _ _) _ _ _); refine AW_cond rfl (fun hg => ?_) (fun hg => ?_) <;> first | (exfalso; simp only [reduceCtorEq] at hg; done) | ((try simp only [Bool.not_eq_true', Bool.not_eq_false', decide_eq_true_eq, decide_eq_false_iff_not] at hg); try (exfalso; omega)))
    | ((with_reducible show _ ∧ _); refine And.intro (fun hg => ?_) (fun hg => ?_) <;> (try simp only [Bool.not_eq_true', Bool.not_eq_false'] at hg) <;> simp only [hg] <;> (try simp only [decide_eq_true_eq, decide_eq_false_iff_not] at hg) <;> (try (exfalso; omega)))
    | (clear hK K)
    | fail)
  all_goals (first | refine EndA_cut hcl (by first | exact Or.inr rfl | exact Or.inl rfl) (by simp only [Try.results27, resA, aresL, go_sem, reduceIte, reduceCtorEq, Nat.reduceAdd, Nat.reduceMul, Nat.reduceSub, Nat.reduceLeDiff, Nat.lt_irrefl, Nat.reduceLT, Nat.reduceEqDiff, Nat.reduceBEq, Int.reduceLE, Int.reduceLT, Int.reduceToNat, w64, eq_self] <;> rfl) rfl ?_ | refine EndA_same (by first | exact Or.inr rfl | exact Or.inl rfl) (by simp only [Try.results27, resA, aresL, go_sem, reduceIte, reduceCtorEq, Nat.reduceAdd, Nat.reduceMul, Nat.reduceSub, Nat.reduceLeDiff, Nat.lt_irrefl, Nat.reduceLT, Nat.reduceEqDiff, Nat.reduceBEq, Int.reduceLE, Int.reduceLT, Int.reduceToNat, w64, eq_self] <;> rfl) ?_)
  all_goals (refine ⟨congrArg LV.bool ?_, rfl⟩; unfold inB; grind)
theorem iValidZeros_c (s : Int) (y : LV) (cs : List Int) (H : Hp) (h : RdL H y (cs.map (LV.int .i64))) (hn : cs.length ≤ 17592186044416) : FunH Try.prog 10 [.agg [.int .i64 s, y]] H fun r' H' => r' = .bool (zerB s cs) ∧ H' = H := by
  (refine FunH_body tyOk Try.func10 rfl (by kernel_rfl) Try.ntmps10 (fun hcl hbd => ?_); simp only [List.length_cons, List.length_nil, Nat.reduceAdd, Nat.reduceSub, List.replicate, List.cons_append, List.nil_append])
  repeat' (first
    | ((with_reducible refine hK _ _ ?_); clear hK K)
    | ((first | (with_reducible show AOp _ _ _ _ _ _ _)); simp (disch := first | ((with_reducible show liveO _ _ _ = true); first | assumption | (exact liveO_setS (by assumption)) | (exact PtL.live (by assumption)) | (exact PtL.liveA (by assumption) _) | (simp only [go_sem]; done)) | omega | assumption | rfl | (simp only [go_sem]; first | done | omega)) only [go_sem, reduceIte, reduceCtorEq, Nat.reduceAdd, Nat.reduceMul, Nat.reduceSub, Nat.reduceLeDiff, Nat.lt_irrefl, Nat.reduceLT, Nat.reduceEqDiff, Nat.reduceBEq, Int.reduceLE, Int.reduceLT, Int.reduceToNat, w64, eq_self, h.isCell, h.lenm])
    | (with_reducible refine AW_seq (fun K hK => ?_))
    | (with_reducible refine AW_region tyOk ?_)
    | (with_reducible refine AOps_cons (fun K hK => ?_))
    | ((with_reducible refine AOps_nil ?_); try simp only [thenA, blockA, if_true, if_false, reduceIte, Nat.reduceEqDiff, reduceCtorEq])
    | (with_reducible refine AW_block ?_)
    | ((first | (with_reducible refine AW_ret ?_) | (with_reducible refine AW_skip ?_) | (with_reducible refine AW_exit ?_)); try simp only [thenA, blockA, if_true, if_false, reduceIte, Nat.reduceEqDiff, reduceCtorEq])
    | ((with_reducible show AW _ _ (.cond _ _ _) _ _ _); refine AW_cond rfl (fun hg => ?_) (fun hg => ?_) <;> first | (exfalso; simp only [reduceCtorEq] at hg; done) | ((try simp only [Bool.not_eq_true', Bool.not_eq_false', decide_eq_true_eq, decide_eq_false_iff_not] at hg); try (exfalso; omega)))
    | ((with_reducible show _ ∧ _); refine And.intro (fun hg => ?_) (fun hg => ?_) <;> (try simp only [Bool.not_eq_true', Bool.not_eq_false'] at hg) <;> simp only [hg] <;> (try simp only [decide_eq_true_eq, decide_eq_false_iff_not] at hg) <;> (try (exfalso; omega)))
    | ((with_reducible apply FunH_intro); (first | exact IsKey_c _ _ | exact isPow2_c _ (by first | assumption | omega | (simp; omega) | (simp; done)) (by first | assumption | omega | (simp; omega) | (simp; done)) _ | exact isPow16_c _ (by first | assumption | omega | (simp; omega) | (simp; done)) (by first | assumption | omega | (simp; omega) | (simp; done)) _ | exact areWithin_c _ _ _ _ _ (by first | assumption | exact RdL.app (by assumption) _ | exact RdL_hj rfl (by simp) | exact RdL_h0 rfl (by simp) | exact RdL_nil | exact RdL_emp) (by first | assumption | omega | (simp; omega) | (simp; done))))
    | (clear hK K)
    | fail)
  all_goals (first | refine EndA_cut hcl (by first | exact Or.inr rfl | exact Or.inl rfl) (by simp only [Try.results10, resA, aresL, go_sem, reduceIte, reduceCtorEq, Nat.reduceAdd, Nat.reduceMul, Nat.reduceSub, Nat.reduceLeDiff, Nat.lt_irrefl, Nat.reduceLT, Nat.reduceEqDiff, Nat.reduceBEq, Int.reduceLE, Int.reduceLT, Int.reduceToNat, w64, eq_self] <;> rfl) rfl ?_ | refine EndA_same (by first | exact Or.inr rfl | exact Or.inl rfl) (by simp only [Try.results10, resA, aresL, go_sem, reduceIte, reduceCtorEq, Nat.reduceAdd, Nat.reduceMul, Nat.reduceSub, Nat.reduceLeDiff, Nat.lt_irrefl, Nat.reduceLT, Nat.reduceEqDiff, Nat.reduceBEq, Int.reduceLE, Int.reduceLT, Int.reduceToNat, w64, eq_self] <;> rfl) ?_)
  all_goals unfold zerB
  all_goals (refine ⟨congrArg LV.bool ?_, rfl⟩; first | rfl | (grind))
end Go.Proofs.Ytpbafacehmjdmaa
