/- Places of keys: numbers below a bound, salts, in the abstract machine. -/
import Derived.Test.YtpbafacehmjdmaaZo
import Derived.Test.YtpbafacehmjdmaaZn
namespace Go.Proofs.Ytpbafacehmjdmaa
open Go.RowKit
set_option linter.unusedSimpArgs false
set_option linter.unusedVariables false
set_option maxRecDepth 100000

theorem wrapu_b (x : Int) : 0 ≤ IntKind.u64.wrap x ∧ IntKind.u64.wrap x < 18446744073709551616 := by
  simp [IntKind.wrap, IntKind.bits, IntKind.signed]; omega
theorem mixI_b (x : Int) : 0 ≤ mixI x ∧ mixI x < 18446744073709551616 := by
  unfold mixI mixC ibits; exact wrapu_b _
theorem hashI_b (k s : Int) : 0 ≤ hashI k s ∧ hashI k s ≤ 4294967295 := by
  unfold hashI
  obtain ⟨h1, h2⟩ := mixI_b (IntKind.u64.wrap (k + s * 4294967296 + 11400714819323198485))
  generalize mixI (IntKind.u64.wrap (k + s * 4294967296 + 11400714819323198485)) = m at h1 h2 ⊢
  rw [Int.fdiv_eq_ediv_of_nonneg _ (by decide)]
  rw [w64 _ (by omega) (by omega)]
  omega
def saltI (s k : Int) : Int := (s + k) % 4294967296
theorem saltI_b (s k : Int) : 0 ≤ saltI s k ∧ saltI s k ≤ 4294967295 := by unfold saltI; omega
def belowI (k s n : Int) : Int := hashI k s * n / 4294967296
theorem hash_mul (k s n : Int) (h1 : 1 ≤ n) (h2 : n ≤ 4294967296) : 0 ≤ hashI k s * n ∧ hashI k s * n ≤ 4294967295 * n := by
  obtain ⟨a, b⟩ := hashI_b k s
  exact ⟨Int.mul_nonneg a (by omega), Int.mul_le_mul_of_nonneg_right b (by omega)⟩
theorem belowI_b (k s n : Int) (h1 : 1 ≤ n) (h2 : n ≤ 4294967296) : 0 ≤ belowI k s n ∧ belowI k s n < n := by
  obtain ⟨a, b⟩ := hash_mul k s n h1 h2
  unfold belowI
  omega
theorem salted_c (s k : Int) (h0 : 0 ≤ s) (h1 : s ≤ 4294967295) (h2 : 0 ≤ k) (h3 : k ≤ 4294967295) (H : Hp) : FunH Try.prog 25 [.int .i64 s, .int .i64 k] H fun r H' => r = .int .i64 (saltI s k) ∧ H' = H := by
  have e1 : (s + k).tmod 4294967296 = saltI s k := by unfold saltI; rw [Int.tmod_eq_emod_of_nonneg (by omega)]
  have hb := saltI_b s k
  have e0 : ((4294967296 : Int) = 0) = False := by simp
  (refine FunH_body tyOk Try.func25 rfl (by kernel_rfl) Try.ntmps25 (fun hcl hbd => ?_); simp only [List.length_cons, List.length_nil, Nat.reduceAdd, Nat.reduceSub, List.replicate, List.cons_append, List.nil_append])
  repeat' (first
    | ((with_reducible refine hK _ _ ?_); clear hK K)
    | ((first | (with_reducible show AOp _ _ _ _ _ _ _)); simp (disch := first | ((with_reducible show liveO _ _ _ = true); first | assumption | (exact liveO_setS (by assumption)) | (exact PtL.live (by assumption)) | (exact PtL.liveA (by assumption) _) | (simp only [go_sem]; done)) | omega | assumption | rfl | (simp only [go_sem]; first | done | omega)) only [go_sem, reduceIte, reduceCtorEq, Nat.reduceAdd, Nat.reduceMul, Nat.reduceSub, Nat.reduceLeDiff, Nat.lt_irrefl, Nat.reduceLT, Nat.reduceEqDiff, Nat.reduceBEq, Int.reduceLE, Int.reduceLT, Int.reduceToNat, w64, eq_self, e1, e0])
    | (with_reducible refine AW_seq (fun K hK => ?_))
    | (with_reducible refine AW_region tyOk ?_)
    | (with_reducible refine AOps_cons (fun K hK => ?_))
    | ((with_reducible refine AOps_nil ?_); try simp only [thenA, blockA, if_true, if_false, reduceIte, Nat.reduceEqDiff, reduceCtorEq])
    | (with_reducible refine AW_block ?_)
    | ((first | (with_reducible refine AW_ret ?_) | (with_reducible refine AW_skip ?_) | (with_reducible refine AW_exit ?_)); try simp only [thenA, blockA, if_true, if_false, reduceIte, Nat.reduceEqDiff, reduceCtorEq])
    | ((with_reducible show AW _ _ (.cond _ _ _) _ _ _); refine AW_cond rfl (fun hg => ?_) (fun hg => ?_) <;> first | (exfalso; simp only [reduceCtorEq] at hg; done) | ((try simp only [Bool.not_eq_true', Bool.not_eq_false', decide_eq_true_eq, decide_eq_false_iff_not] at hg); try (exfalso; omega)))
    | ((with_reducible show _ ∧ _); refine And.intro (fun hg => ?_) (fun hg => ?_) <;> (try simp only [Bool.not_eq_true', Bool.not_eq_false'] at hg) <;> simp only [hg] <;> (try simp only [decide_eq_true_eq, decide_eq_false_iff_not] at hg) <;> (try (exfalso; omega)))
    | (clear hK K)
    | fail)
  all_goals (first | refine EndA_cut hcl (by first | exact Or.inr rfl | exact Or.inl rfl) (by simp only [Try.results25, resA, aresL, go_sem, reduceIte, reduceCtorEq, Nat.reduceAdd, Nat.reduceMul, Nat.reduceSub, Nat.reduceLeDiff, Nat.lt_irrefl, Nat.reduceLT, Nat.reduceEqDiff, Nat.reduceBEq, Int.reduceLE, Int.reduceLT, Int.reduceToNat, w64, eq_self] <;> rfl) rfl ?_ | refine EndA_same (by first | exact Or.inr rfl | exact Or.inl rfl) (by simp only [Try.results25, resA, aresL, go_sem, reduceIte, reduceCtorEq, Nat.reduceAdd, Nat.reduceMul, Nat.reduceSub, Nat.reduceLeDiff, Nat.lt_irrefl, Nat.reduceLT, Nat.reduceEqDiff, Nat.reduceBEq, Int.reduceLE, Int.reduceLT, Int.reduceToNat, w64, eq_self] <;> rfl) ?_)
  all_goals exact ⟨rfl, rfl⟩
theorem below_c (k s n : Int) (hk0 : 0 ≤ k) (hk1 : k ≤ 4294967295) (hs0 : 0 ≤ s) (hs1 : s ≤ 4294967295) (h1 : 1 ≤ n) (h2 : n ≤ 4294967296) (H : Hp) : FunH Try.prog 22 [.int .i64 k, .int .i64 s, .int .i64 n] H fun r H' => r = .int .i64 (belowI k s n) ∧ H' = H := by
  obtain ⟨a, b⟩ := hash_mul k s n h1 h2
  obtain ⟨c, d⟩ := hashI_b k s
  obtain ⟨f, g⟩ := belowI_b k s n h1 h2
  have e1 := wu64 (hashI k s) (by omega) (by omega)
  have e2 := wu64 n (by omega) (by omega)
  have e3 := wu64 (hashI k s * n) (by omega) (by omega)
  have e4 : (hashI k s * n).fdiv 4294967296 = belowI k s n := Int.fdiv_eq_ediv_of_nonneg _ (by decide)
  have e5 := w64 (belowI k s n) (by omega) (by omega)
  (refine FunH_body tyOk Try.func22 rfl (by kernel_rfl) Try.ntmps22 (fun hcl hbd => ?_); simp only [List.length_cons, List.length_nil, Nat.reduceAdd, Nat.reduceSub, List.replicate, List.cons_append, List.nil_append])
  repeat' (first
    | ((with_reducible refine hK _ _ ?_); clear hK K)
    | ((first | (with_reducible show AOp _ _ _ _ _ _ _)); simp (disch := first | ((with_reducible show liveO _ _ _ = true); first | assumption | (exact liveO_setS (by assumption)) | (exact PtL.live (by assumption)) | (exact PtL.liveA (by assumption) _) | (simp only [go_sem]; done)) | omega | assumption | rfl | (simp only [go_sem]; first | done | omega)) only [go_sem, reduceIte, reduceCtorEq, Nat.reduceAdd, Nat.reduceMul, Nat.reduceSub, Nat.reduceLeDiff, Nat.lt_irrefl, Nat.reduceLT, Nat.reduceEqDiff, Nat.reduceBEq, Int.reduceLE, Int.reduceLT, Int.reduceToNat, w64, eq_self, e1, e2, e3, p32, e4, e5])
    | (with_reducible refine AW_seq (fun K hK => ?_))
    | (with_reducible refine AW_region tyOk ?_)
    | (with_reducible refine AOps_cons (fun K hK => ?_))
    | ((with_reducible refine AOps_nil ?_); try simp only [thenA, blockA, if_true, if_false, reduceIte, Nat.reduceEqDiff, reduceCtorEq])
    | (with_reducible refine AW_block ?_)
    | ((first | (with_reducible refine AW_ret ?_) | (with_reducible refine AW_skip ?_) | (with_reducible refine AW_exit ?_)); try simp only [thenA, blockA, if_true, if_false, reduceIte, Nat.reduceEqDiff, reduceCtorEq])
    | ((with_reducible show AW _ _ (.cond _ _ _) _ _ _); refine AW_cond rfl (fun hg => ?_) (fun hg => ?_) <;> first | (exfalso; simp only [reduceCtorEq] at hg; done) | ((try simp only [Bool.not_eq_true', Bool.not_eq_false', decide_eq_true_eq, decide_eq_false_iff_not] at hg); try (exfalso; omega)))
    | ((with_reducible show _ ∧ _); refine And.intro (fun hg => ?_) (fun hg => ?_) <;> (try simp only [Bool.not_eq_true', Bool.not_eq_false'] at hg) <;> simp only [hg] <;> (try simp only [decide_eq_true_eq, decide_eq_false_iff_not] at hg) <;> (try (exfalso; omega)))
    | ((with_reducible apply FunH_intro); (first | exact hash_c _ _ (by first | assumption | omega | (simp; omega) | (simp; done)) (by first | assumption | omega | (simp; omega) | (simp; done)) (by first | assumption | omega | (simp; omega) | (simp; done)) (by first | assumption | omega | (simp; omega) | (simp; done)) _))
    | (clear hK K)
    | fail)
  all_goals (first | refine EndA_cut hcl (by first | exact Or.inr rfl | exact Or.inl rfl) (by simp only [Try.results22, resA, aresL, go_sem, reduceIte, reduceCtorEq, Nat.reduceAdd, Nat.reduceMul, Nat.reduceSub, Nat.reduceLeDiff, Nat.lt_irrefl, Nat.reduceLT, Nat.reduceEqDiff, Nat.reduceBEq, Int.reduceLE, Int.reduceLT, Int.reduceToNat, w64, eq_self] <;> rfl) rfl ?_ | refine EndA_same (by first | exact Or.inr rfl | exact Or.inl rfl) (by simp only [Try.results22, resA, aresL, go_sem, reduceIte, reduceCtorEq, Nat.reduceAdd, Nat.reduceMul, Nat.reduceSub, Nat.reduceLeDiff, Nat.lt_irrefl, Nat.reduceLT, Nat.reduceEqDiff, Nat.reduceBEq, Int.reduceLE, Int.reduceLT, Int.reduceToNat, w64, eq_self] <;> rfl) ?_)
  all_goals exact ⟨rfl, rfl⟩
def spotsL (k s n : Int) (R : Nat) : List Int := (List.range R).map fun i => belowI k (saltI s (i : Nat)) n
theorem spotsL_len (k s n : Int) (R : Nat) : (spotsL k s n R).length = R := by simp [spotsL]
theorem spotsL_succ (k s n : Int) (R : Nat) : spotsL k s n (R + 1) = spotsL k s n R ++ [belowI k (saltI s (R : Nat)) n] := by simp [spotsL, List.range_succ]
theorem spotsL_ix (k s n : Int) (R i : Nat) (h : i < R) : ix (spotsL k s n R) i = belowI k (saltI s (i : Nat)) n := by
  rw [ix_eq _ _ (by rw [spotsL_len]; exact h)]; simp [spotsL]
end Go.Proofs.Ytpbafacehmjdmaa
