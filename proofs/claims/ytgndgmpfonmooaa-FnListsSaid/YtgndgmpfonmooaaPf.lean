/- Lists of small numbers: what of them is decided outright; RankIn in the abstract machine. -/
import Derived.Test.YtgndgmpfonmooaaPc
import Derived.Test.YtgndgmpfonmooaaPe
import Derived.Test.YtgndgmpfonmooaaBq
namespace Go.Proofs.Ytgndgmpfonmooaa
open Go.RowKit
set_option linter.unusedSimpArgs false
set_option linter.unusedVariables false
set_option maxRecDepth 100000

theorem fB_fin0 : ((List.range 33).all fun p => finO (fB (p : Nat))) = true := by decide +kernel
theorem fB_fin {p : Int} (h0 : 0 ≤ p) (h1 : p < 33) : finO (fB p) = true := by
  obtain ⟨k, rfl⟩ := Int.eq_ofNat_of_zero_le h0
  exact List.all_eq_true.1 fB_fin0 k (List.mem_range.2 (by omega))
theorem b10L_list {xs : List Int} (h : byB xs) {n : Nat} (h1 : 1 ≤ n) (h2 : n ≤ 256) : listB (b10L xs n) = true := by
  unfold listB
  rw [b10L_len, decide_eq_true h1, decide_eq_true h2, Bool.true_and, Bool.true_and, List.all_eq_true]
  intro x hx
  obtain ⟨k, _, rfl⟩ := List.mem_map.1 hx
  exact fB_fin (b10A_in h k).1 (b10A_in h k).2
/-- A share: so many sixteenths. -/
def shF (k : Nat) : Option Nat := opC .quo .f32 (some (FloatKind.f32.nearest (k : Nat))) (some 1098907648)
def shL (k n : Nat) : Option Nat := opC .sub .f64 (opC .mul .f64 (cw (shF k)) (some (FloatKind.f64.nearest (n : Nat)))) (some 4562254508917369340)
def shH (k n : Nat) : Option Nat := opC .add .f64 (opC .mul .f64 (cw (shF k)) (some (FloatKind.f64.nearest (n : Nat)))) (some 4562254508917369340)
def okN (lo hi : Option Nat) (n : Nat) (p : Int) : Bool := (List.range (n + 1)).all fun r => (decide ((r : Int) < p) || fGe .f64 (some (FloatKind.f64.nearest (r : Nat))) lo) && (decide (r = 0) || decide (p ≤ (r : Int)) || fLt .f64 (some (FloatKind.f64.nearest (r : Nat))) hi)
def okK (k : Nat) : Bool := shareB (shF k) && (List.range 20).all fun n => okN (shL k (n + 1)) (shH k (n + 1)) (n + 1) (placeI ((shF k).getD 0) ((n + 1 : Nat)))
theorem okA : ((List.range 17).all okK) = true := by decide +kernel
theorem ok_share {k : Nat} (h : k < 17) : shareB (shF k) = true := (Bool.and_eq_true_iff.1 (List.all_eq_true.1 okA k (List.mem_range.2 h))).1
theorem ok_at {k n r : Nat} (h : k < 17) (h1 : 1 ≤ n) (h2 : n ≤ 20) (hr : r ≤ n) : (placeI ((shF k).getD 0) (n : Nat) ≤ r → fGe .f64 (some (FloatKind.f64.nearest (r : Nat))) (shL k n) = true) ∧ ((r : Int) < placeI ((shF k).getD 0) (n : Nat) → r ≠ 0 → fLt .f64 (some (FloatKind.f64.nearest (r : Nat))) (shH k n) = true) := by
  obtain ⟨m, rfl⟩ : ∃ m, n = m + 1 := ⟨n - 1, by omega⟩
  have h3 := List.all_eq_true.1 (Bool.and_eq_true_iff.1 (List.all_eq_true.1 okA k (List.mem_range.2 h))).2 m (List.mem_range.2 (by omega))
  have h4 := List.all_eq_true.1 h3 r (List.mem_range.2 (by omega))
  simp only [Bool.and_eq_true, Bool.or_eq_true, decide_eq_true_eq] at h4
  refine ⟨fun hp => ?_, fun hp hr0 => ?_⟩
  · rcases h4.1 with h5 | h5
    · omega
    · exact h5
  · rcases h4.2 with (h5 | h5) | h5
    · exact absurd h5 hr0
    · omega
    · exact h5
theorem rankIn_c (lv : LV) (xs : List (Option Nat)) (x : Option Nat) (H : Hp) (h : RdL H lv (xs.map (LV.flt .f32))) (hn : xs.length ≤ 1048576) : FunH Try.prog 17 [lv, .flt .f32 x] H fun r H' => r = .tup [.int .i64 (if listB xs && finO x then ((xs.countP fun y => fLe .f32 y x : Nat) : Int) else 0), .bool (listB xs && finO x)] ∧ H' = H := by
  cases e1 : listB xs
  · (refine FunH_body tyOk Try.func17 rfl (by kernel_rfl) Try.ntmps17 (fun hcl hbd => ?_); simp only [List.length_cons, List.length_nil, Nat.reduceAdd, Nat.reduceSub, List.replicate, List.cons_append, List.nil_append])
    repeat' (first
      | ((with_reducible refine hK _ _ ?_); clear hK K)
      | ((first | (with_reducible show AOp _ _ _ _ _ _ _)); simp (disch := first | ((with_reducible show liveO _ _ _ = true); first | assumption | (exact liveO_setS (by assumption)) | (exact PtL.live (by assumption)) | (exact PtL.liveA (by assumption) _) | (simp only [go_sem]; done)) | omega | assumption | rfl | (simp only [go_sem]; first | done | omega)) only [go_sem, reduceIte, reduceCtorEq, Nat.reduceAdd, Nat.reduceMul, Nat.reduceSub, Nat.reduceLeDiff, Nat.lt_irrefl, Nat.reduceLT, Nat.reduceEqDiff, Nat.reduceBEq, Int.reduceLE, Int.reduceLT, Int.reduceToNat, w64, eq_self, e1])
      | (with_reducible refine AW_seq (fun K hK => ?_))
      | (with_reducible refine AW_region tyOk ?_)
      | (with_reducible refine AOps_cons (fun K hK => ?_))
      | ((with_reducible refine AOps_nil ?_); try simp only [thenA, blockA, if_true, if_false, reduceIte, Nat.reduceEqDiff, reduceCtorEq])
      | (with_reducible refine AW_block ?_)
      | ((first | (with_reducible refine AW_ret ?_) | (with_reducible refine AW_skip ?_) | (with_reducible refine AW_exit ?_)); try simp only [thenA, blockA, if_true, if_false, reduceIte, Nat.reduceEqDiff, reduceCtorEq])
      | ((with_reducible show AW _ _ (.cond _ _ _) _ _ _); refine AW_cond rfl (fun hg => ?_) (fun hg => ?_) <;> first | (exfalso; simp only [reduceCtorEq] at hg; done) | ((try simp only [Bool.not_eq_true', Bool.not_eq_false', decide_eq_true_eq, decide_eq_false_iff_not] at hg); try (exfalso; omega)))
      | ((with_reducible show _ ∧ _); refine And.intro (fun hg => ?_) (fun hg => ?_) <;> (try simp only [Bool.not_eq_true', Bool.not_eq_false'] at hg) <;> simp only [hg] <;> (try simp only [decide_eq_true_eq, decide_eq_false_iff_not] at hg) <;> (try (exfalso; omega)))
      | ((with_reducible apply FunH_intro); (first | exact IsList_c _ _ _ (by first | assumption | exact RdL.app (by assumption) _ | exact RdL_hj rfl (by simp) | exact RdL_h0 rfl (by simp) | exact RdL_nil | exact RdL_emp) (by first | assumption | omega | (simp; omega) | (simp; done)) | exact IsFinite_c _ _ | exact rank_c _ _ _ _ (by first | assumption | exact RdL.app (by assumption) _ | exact RdL_hj rfl (by simp) | exact RdL_h0 rfl (by simp) | exact RdL_nil | exact RdL_emp) (by first | assumption | omega | (simp; omega) | (simp; done))))
      | (clear hK K)
      | fail)
    all_goals (first | refine EndA_cut hcl (by first | exact Or.inr rfl | exact Or.inl rfl) (by simp only [Try.results17, resA, aresL, go_sem, reduceIte, reduceCtorEq, Nat.reduceAdd, Nat.reduceMul, Nat.reduceSub, Nat.reduceLeDiff, Nat.lt_irrefl, Nat.reduceLT, Nat.reduceEqDiff, Nat.reduceBEq, Int.reduceLE, Int.reduceLT, Int.reduceToNat, w64, eq_self] <;> rfl) rfl ?_ | refine EndA_same (by first | exact Or.inr rfl | exact Or.inl rfl) (by simp only [Try.results17, resA, aresL, go_sem, reduceIte, reduceCtorEq, Nat.reduceAdd, Nat.reduceMul, Nat.reduceSub, Nat.reduceLeDiff, Nat.lt_irrefl, Nat.reduceLT, Nat.reduceEqDiff, Nat.reduceBEq, Int.reduceLE, Int.reduceLT, Int.reduceToNat, w64, eq_self] <;> rfl) ?_)
    all_goals exact ⟨rfl, rfl⟩
  cases e2 : finO x
  · (refine FunH_body tyOk Try.func17 rfl (by kernel_rfl) Try.ntmps17 (fun hcl hbd => ?_); simp only [List.length_cons, List.length_nil, Nat.reduceAdd, Nat.reduceSub, List.replicate, List.cons_append, List.nil_append])
    repeat' (first
      | ((with_reducible refine hK _ _ ?_); clear hK K)
      | ((first | (with_reducible show AOp _ _ _ _ _ _ _)); simp (disch := first | ((with_reducible show liveO _ _ _ = true); first | assumption | (exact liveO_setS (by assumption)) | (exact PtL.live (by assumption)) | (exact PtL.liveA (by assumption) _) | (simp only [go_sem]; done)) | omega | assumption | rfl | (simp only [go_sem]; first | done | omega)) only [go_sem, reduceIte, reduceCtorEq, Nat.reduceAdd, Nat.reduceMul, Nat.reduceSub, Nat.reduceLeDiff, Nat.lt_irrefl, Nat.reduceLT, Nat.reduceEqDiff, Nat.reduceBEq, Int.reduceLE, Int.reduceLT, Int.reduceToNat, w64, eq_self, e1, e2])
      | (with_reducible refine AW_seq (fun K hK => ?_))
      | (with_reducible refine AW_region tyOk ?_)
      | (with_reducible refine AOps_cons (fun K hK => ?_))
      | ((with_reducible refine AOps_nil ?_); try simp only [thenA, blockA, if_true, if_false, reduceIte, Nat.reduceEqDiff, reduceCtorEq])
      | (with_reducible refine AW_block ?_)
      | ((first | (with_reducible refine AW_ret ?_) | (with_reducible refine AW_skip ?_) | (with_reducible refine AW_exit ?_)); try simp only [thenA, blockA, if_true, if_false, reduceIte, Nat.reduceEqDiff, reduceCtorEq])
      | ((with_reducible show AW _ _ (.cond _ _ _) _ _ _); refine AW_cond rfl (fun hg => ?_) (fun hg => ?_) <;> first | (exfalso; simp only [reduceCtorEq] at hg; done) | ((try simp only [Bool.not_eq_true', Bool.not_eq_false', decide_eq_true_eq, decide_eq_false_iff_not] at hg); try (exfalso; omega)))
      | ((with_reducible show _ ∧ _); refine And.intro (fun hg => ?_) (fun hg => ?_) <;> (try simp only [Bool.not_eq_true', Bool.not_eq_false'] at hg) <;> simp only [hg] <;> (try simp only [decide_eq_true_eq, decide_eq_false_iff_not] at hg) <;> (try (exfalso; omega)))
      | ((with_reducible apply FunH_intro); (first | exact IsList_c _ _ _ (by first | assumption | exact RdL.app (by assumption) _ | exact RdL_hj rfl (by simp) | exact RdL_h0 rfl (by simp) | exact RdL_nil | exact RdL_emp) (by first | assumption | omega | (simp; omega) | (simp; done)) | exact IsFinite_c _ _ | exact rank_c _ _ _ _ (by first | assumption | exact RdL.app (by assumption) _ | exact RdL_hj rfl (by simp) | exact RdL_h0 rfl (by simp) | exact RdL_nil | exact RdL_emp) (by first | assumption | omega | (simp; omega) | (simp; done))))
      | (clear hK K)
      | fail)
    all_goals (first | refine EndA_cut hcl (by first | exact Or.inr rfl | exact Or.inl rfl) (by simp only [Try.results17, resA, aresL, go_sem, reduceIte, reduceCtorEq, Nat.reduceAdd, Nat.reduceMul, Nat.reduceSub, Nat.reduceLeDiff, Nat.lt_irrefl, Nat.reduceLT, Nat.reduceEqDiff, Nat.reduceBEq, Int.reduceLE, Int.reduceLT, Int.reduceToNat, w64, eq_self] <;> rfl) rfl ?_ | refine EndA_same (by first | exact Or.inr rfl | exact Or.inl rfl) (by simp only [Try.results17, resA, aresL, go_sem, reduceIte, reduceCtorEq, Nat.reduceAdd, Nat.reduceMul, Nat.reduceSub, Nat.reduceLeDiff, Nat.lt_irrefl, Nat.reduceLT, Nat.reduceEqDiff, Nat.reduceBEq, Int.reduceLE, Int.reduceLT, Int.reduceToNat, w64, eq_self] <;> rfl) ?_)
    all_goals exact ⟨rfl, rfl⟩
  · (refine FunH_body tyOk Try.func17 rfl (by kernel_rfl) Try.ntmps17 (fun hcl hbd => ?_); simp only [List.length_cons, List.length_nil, Nat.reduceAdd, Nat.reduceSub, List.replicate, List.cons_append, List.nil_append])
    repeat' (first
      | ((with_reducible refine hK _ _ ?_); clear hK K)
      | ((first | (with_reducible show AOp _ _ _ _ _ _ _)); simp (disch := first | ((with_reducible show liveO _ _ _ = true); first | assumption | (exact liveO_setS (by assumption)) | (exact PtL.live (by assumption)) | (exact PtL.liveA (by assumption) _) | (simp only [go_sem]; done)) | omega | assumption | rfl | (simp only [go_sem]; first | done | omega)) only [go_sem, reduceIte, reduceCtorEq, Nat.reduceAdd, Nat.reduceMul, Nat.reduceSub, Nat.reduceLeDiff, Nat.lt_irrefl, Nat.reduceLT, Nat.reduceEqDiff, Nat.reduceBEq, Int.reduceLE, Int.reduceLT, Int.reduceToNat, w64, eq_self, e1, e2])
      | (with_reducible refine AW_seq (fun K hK => ?_))
      | (with_reducible refine AW_region tyOk ?_)
      | (with_reducible refine AOps_cons (fun K hK => ?_))
      | ((with_reducible refine AOps_nil ?_); try simp only [thenA, blockA, if_true, if_false, reduceIte, Nat.reduceEqDiff, reduceCtorEq])
      | (with_reducible refine AW_block ?_)
      | ((first | (with_reducible refine AW_ret ?_) | (with_reducible refine AW_skip ?_) | (with_reducible refine AW_exit ?_)); try simp only [thenA, blockA, if_true, if_false, reduceIte, Nat.reduceEqDiff, reduceCtorEq])
      | ((with_reducible show AW _ _ (.cond _ _ _) _ _ _); refine AW_cond rfl (fun hg => ?_) (fun hg => ?_) <;> first | (exfalso; simp only [reduceCtorEq] at hg; done) | ((try simp only [Bool.not_eq_true', Bool.not_eq_false', decide_eq_true_eq, decide_eq_false_iff_not] at hg); try (exfalso; omega)))
      | ((with_reducible show _ ∧ _); refine And.intro (fun hg => ?_) (fun hg => ?_) <;> (try simp only [Bool.not_eq_true', Bool.not_eq_false'] at hg) <;> simp only [hg] <;> (try simp only [decide_eq_true_eq, decide_eq_false_iff_not] at hg) <;> (try (exfalso; omega)))
      | ((with_reducible apply FunH_intro); (first | exact IsList_c _ _ _ (by first | assumption | exact RdL.app (by assumption) _ | exact RdL_hj rfl (by simp) | exact RdL_h0 rfl (by simp) | exact RdL_nil | exact RdL_emp) (by first | assumption | omega | (simp; omega) | (simp; done)) | exact IsFinite_c _ _ | exact rank_c _ _ _ _ (by first | assumption | exact RdL.app (by assumption) _ | exact RdL_hj rfl (by simp) | exact RdL_h0 rfl (by simp) | exact RdL_nil | exact RdL_emp) (by first | assumption | omega | (simp; omega) | (simp; done))))
      | (clear hK K)
      | fail)
    all_goals (first | refine EndA_cut hcl (by first | exact Or.inr rfl | exact Or.inl rfl) (by simp only [Try.results17, resA, aresL, go_sem, reduceIte, reduceCtorEq, Nat.reduceAdd, Nat.reduceMul, Nat.reduceSub, Nat.reduceLeDiff, Nat.lt_irrefl, Nat.reduceLT, Nat.reduceEqDiff, Nat.reduceBEq, Int.reduceLE, Int.reduceLT, Int.reduceToNat, w64, eq_self] <;> rfl) rfl ?_ | refine EndA_same (by first | exact Or.inr rfl | exact Or.inl rfl) (by simp only [Try.results17, resA, aresL, go_sem, reduceIte, reduceCtorEq, Nat.reduceAdd, Nat.reduceMul, Nat.reduceSub, Nat.reduceLeDiff, Nat.lt_irrefl, Nat.reduceLT, Nat.reduceEqDiff, Nat.reduceBEq, Int.reduceLE, Int.reduceLT, Int.reduceToNat, w64, eq_self] <;> rfl) ?_)
    all_goals exact ⟨rfl, rfl⟩
end Go.Proofs.Ytgndgmpfonmooaa
