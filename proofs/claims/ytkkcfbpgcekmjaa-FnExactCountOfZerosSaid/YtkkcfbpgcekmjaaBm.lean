/- Powers of two, windows that are valid, in the abstract machine. -/
import Derived.Test.YtkkcfbpgcekmjaaBl
namespace Go.Proofs.Ytkkcfbpgcekmjaa
open Go.RowKit
set_option linter.unusedSimpArgs false
set_option linter.unusedVariables false
set_option maxRecDepth 100000

/-! Powers of two. -/
theorem land_even (m : Nat) (h : 0 < m) : (2 * m) &&& (2 * m - 1) = 2 * (m &&& (m - 1)) := by
  refine Nat.eq_of_testBit_eq fun i => ?_
  cases i with
  | zero => simp [Nat.testBit_and]
  | succ i =>
    have e : (2 * m - 1) / 2 = m - 1 := by omega
    rw [Nat.testBit_and, Nat.testBit_succ, Nat.testBit_succ, Nat.testBit_succ, e]
    simp [Nat.testBit_and]
theorem land_odd (m : Nat) : (2 * m + 1) &&& (2 * m) = 2 * m := by
  refine Nat.eq_of_testBit_eq fun i => ?_
  cases i with
  | zero => simp [Nat.testBit_and]
  | succ i =>
    have e : (2 * m + 1) / 2 = m := by omega
    rw [Nat.testBit_and, Nat.testBit_succ, Nat.testBit_succ, e]
    simp
theorem land_pow : ∀ (n : Nat), 0 < n → (n &&& (n - 1) = 0 ↔ ∃ k, n = 2 ^ k) := by
  intro n
  induction n using Nat.strongRecOn with
  | _ n ih =>
    intro hn
    rcases Nat.mod_two_eq_zero_or_one n with h | h
    · obtain ⟨m, rfl⟩ : ∃ m, n = 2 * m := ⟨n / 2, by omega⟩
      rw [land_even m (by omega)]
      have := ih m (by omega) (by omega)
      constructor
      · intro h0
        obtain ⟨k, hk⟩ := this.1 (by omega)
        exact ⟨k + 1, by rw [hk, Nat.pow_succ]; omega⟩
      · rintro ⟨k, hk⟩
        cases k with
        | zero => simp at hk; omega
        | succ k => have := this.2 ⟨k, by rw [Nat.pow_succ] at hk; omega⟩; omega
    · obtain ⟨m, rfl⟩ : ∃ m, n = 2 * m + 1 := ⟨n / 2, by omega⟩
      rw [Nat.add_sub_cancel, land_odd]
      constructor
      · intro h0; exact ⟨0, by omega⟩
      · rintro ⟨k, hk⟩
        cases k with
        | zero => simp at hk; omega
        | succ k => rw [Nat.pow_succ] at hk; omega
theorem ibits_and (a b : Nat) (ha : a < 9223372036854775808) (hb : b < 9223372036854775808) : ibits .and .i64 (a : Int) (b : Int) = ((a &&& b : Nat) : Int) := by
  have h1 : a &&& b ≤ a := Nat.and_le_left
  have e0 : ibits .and .i64 (a : Int) (b : Int) = IntKind.i64.wrap ((BitVec.ofInt 64 (a : Int) &&& BitVec.ofInt 64 (b : Int)).toNat : Int) := rfl
  have e1 : (BitVec.ofInt 64 (a : Int) &&& BitVec.ofInt 64 (b : Int)).toNat = a &&& b := by
    rw [BitVec.toNat_and]
    simp only [BitVec.ofInt_natCast, BitVec.toNat_ofNat]
    rw [Nat.mod_eq_of_lt (by omega), Nat.mod_eq_of_lt (by omega)]
  rw [e0, e1, IntKind.wrap_i64]; omega
def powB (n : Int) : Bool := inB n 1 1048576 && decide (ibits .and .i64 n (n - 1) = 0)
theorem powB_iff (n : Int) : powB n = true ↔ ∃ k : Nat, k ≤ 20 ∧ n = ((2 ^ k : Nat) : Int) := by
  unfold powB inB
  simp only [Bool.and_eq_true, decide_eq_true_eq]
  constructor
  · rintro ⟨⟨h1, h2⟩, h3⟩
    obtain ⟨m, rfl⟩ : ∃ m : Nat, n = (m : Int) := ⟨n.toNat, by omega⟩
    have e : ((m : Int) - 1) = ((m - 1 : Nat) : Int) := by omega
    rw [e, ibits_and m (m - 1) (by omega) (by omega)] at h3
    obtain ⟨k, hk⟩ := (land_pow m (by omega)).1 (by omega)
    refine ⟨k, ?_, by rw [hk]⟩
    have : 2 ^ k ≤ 2 ^ 20 := by rw [← hk]; show m ≤ 1048576; omega
    exact (Nat.pow_le_pow_iff_right (by omega)).1 this
  · rintro ⟨k, hk, rfl⟩
    have h1 : 1 ≤ 2 ^ k := Nat.one_le_two_pow
    have h2 : 2 ^ k ≤ 1048576 := by have := Nat.pow_le_pow_right (n := 2) (by omega) hk; simpa using this
    have e : (((2 ^ k : Nat) : Int) - 1) = ((2 ^ k - 1 : Nat) : Int) := by omega
    refine ⟨⟨by omega, by omega⟩, ?_⟩
    rw [e, ibits_and _ _ (by omega) (by omega), (land_pow _ (by omega)).2 ⟨k, rfl⟩]; rfl
def pow1B (n : Int) : Bool := (List.range 21).any fun k => decide (n = ((2 ^ (0 + k) : Nat) : Int))
theorem l04Power_pow1_c (n : Int) (H : Hp) : FunH Try.prog 165 [.int .i64 n, .int .i64 1, .int .i64 1048576] H fun r H' => r = .bool (pow1B n) ∧ H' = H := by
  unfold pow1B
  (refine FunH_body tyOk Try.func165 rfl (by kernel_rfl) Try.ntmps165 (fun hcl hbd => ?_); simp only [List.length_cons, List.length_nil, Nat.reduceAdd, Nat.reduceSub, List.replicate, List.cons_append, List.nil_append])
  repeat' (first
    | ((with_reducible refine hK _ _ ?_); clear hK K)
    | ((first | (with_reducible show AOp _ _ _ _ _ _ _)); simp (disch := first | ((with_reducible show liveO _ _ _ = true); first | assumption | (exact liveO_setS (by assumption)) | (exact PtL.live (by assumption)) | (exact PtL.liveA (by assumption) _) | (simp only [go_sem]; done)) | omega | assumption | rfl | (simp only [go_sem]; first | done | omega)) only [go_sem, reduceIte, reduceCtorEq, Nat.reduceAdd, Nat.reduceMul, Nat.reduceSub, Nat.reduceLeDiff, Nat.lt_irrefl, Nat.reduceLT, Nat.reduceEqDiff, Nat.reduceBEq, Int.reduceLE, Int.reduceLT, Int.reduceToNat, w64, eq_self])
    | (with_reducible refine AW_seq (fun K hK => ?_))
    | (with_reducible refine AW_region tyOk ?_)
    | (with_reducible refine AOps_cons (fun K hK => ?_))
    | ((with_reducible refine AOps_nil ?_); try simp only [thenA, blockA, if_true, if_false, reduceIte, Nat.reduceEqDiff, reduceCtorEq])
    | (with_reducible refine AW_block ?_)
    | ((first | (with_reducible refine AW_ret ?_) | (with_reducible refine AW_skip ?_) | (with_reducible refine AW_exit ?_)); try simp only [thenA, blockA, if_true, if_false, reduceIte, Nat.reduceEqDiff, reduceCtorEq])
    | ((with_reducible show AW _ _ (.cond _ _ _) _ _ _); refine AW_cond rfl (fun hg => ?_) (fun hg => ?_) <;> first | (exfalso; simp only [reduceCtorEq] at hg; done) | ((try simp only [Bool.not_eq_true', Bool.not_eq_false', decide_eq_true_eq, decide_eq_false_iff_not] at hg); try (exfalso; omega)))
    | ((with_reducible show _ ∧ _); refine And.intro (fun hg => ?_) (fun hg => ?_) <;> (try simp only [Bool.not_eq_true', Bool.not_eq_false'] at hg) <;> simp only [hg] <;> (try simp only [decide_eq_true_eq, decide_eq_false_iff_not] at hg) <;> (try (exfalso; omega)))
    | (clear hK K)
    | fail)
  refine AW_loopV [6, 7, 9, 10, 11, 12, 13, 14, 15, 16] (fun k : Nat => [(7, .int .i64 ((2 ^ (0 + k) : Nat) : Int))]) (fun _ => H) (fun k => k ≤ 21 ∧ ∀ j, j < k → n ≠ ((2 ^ (0 + j) : Nat) : Int)) (fun k => 21 - k) 0 ⟨Nat.zero_le _, fun j hj => by omega⟩ ?_ rfl ?_
  · simp only [junkAll, setAll, List.foldl_cons, List.foldl_nil, List.set_cons_succ, List.set_cons_zero, JL, true_or, or_true, and_true, true_and, reduceCtorEq, false_or, or_false, LV.int.injEq, LV.bool.injEq, LV.flt.injEq, LV.sl.injEq, LV.ptr.injEq, eq_self, Int.natCast_add, Int.natCast_one, Int.natCast_zero, Int.ofNat_zero]; rfl
  · intro k ⟨hk, hp⟩ K hK
    have b1 : 2 ^ (0 + k) ≤ 2 ^ (0 + 21) := Nat.pow_le_pow_right (by omega) (by omega)
    have b1' : 2 ^ (0 + k) ≤ 2097152 := Nat.le_trans b1 (by decide)
    have b2 : k < 21 → 2 ^ (0 + k) ≤ 1048576 := fun h => Nat.le_trans (Nat.pow_le_pow_right (by omega) (show 0 + k ≤ 0 + 21 - 1 by omega)) (by decide)
    have b3 : k = 21 → 1048576 < 2 ^ (0 + k) := fun h => by subst h; decide
    have b4 : 2 ^ (0 + (k + 1)) = 2 * 2 ^ (0 + k) := by rw [← Nat.add_assoc, Nat.pow_succ, Nat.mul_comm]
    obtain ⟨q, hQ⟩ : ∃ q, 2 ^ (0 + k) = q := ⟨_, rfl⟩
    rw [hQ] at b1 b1' b2 b3 b4
    rw [hQ]
    simp only [junkAll, setAll, List.foldl_cons, List.foldl_nil, List.set_cons_succ, List.set_cons_zero]
    repeat' (first
      | ((with_reducible refine hK _ _ ?_); clear hK K)
      | ((first | (with_reducible show AOp _ _ _ _ _ _ _)); simp (disch := first | ((with_reducible show liveO _ _ _ = true); first | assumption | (exact liveO_setS (by assumption)) | (exact PtL.live (by assumption)) | (exact PtL.liveA (by assumption) _) | (simp only [go_sem]; done)) | omega | assumption | rfl | (simp only [go_sem]; first | done | omega)) only [go_sem, reduceIte, reduceCtorEq, Nat.reduceAdd, Nat.reduceMul, Nat.reduceSub, Nat.reduceLeDiff, Nat.lt_irrefl, Nat.reduceLT, Nat.reduceEqDiff, Nat.reduceBEq, Int.reduceLE, Int.reduceLT, Int.reduceToNat, w64, eq_self])
      | (with_reducible refine AW_seq (fun K hK => ?_))
      | (with_reducible refine AW_region tyOk ?_)
      | (with_reducible refine AOps_cons (fun K hK => ?_))
      | ((with_reducible refine AOps_nil ?_); try simp only [thenA, blockA, if_true, if_false, reduceIte, Nat.reduceEqDiff, reduceCtorEq])
      | (with_reducible refine AW_block ?_)
      | ((first | (with_reducible refine AW_ret ?_) | (with_reducible refine AW_skip ?_) | (with_reducible refine AW_exit ?_)); try simp only [thenA, blockA, if_true, if_false, reduceIte, Nat.reduceEqDiff, reduceCtorEq])
      | ((with_reducible show AW _ _ (.cond _ _ _) _ _ _); refine AW_cond rfl (fun hg => ?_) (fun hg => ?_) <;> first | (exfalso; simp only [reduceCtorEq] at hg; done) | ((try simp only [Bool.not_eq_true', Bool.not_eq_false', decide_eq_true_eq, decide_eq_false_iff_not] at hg); try (exfalso; omega)))
      | ((with_reducible show _ ∧ _); refine And.intro (fun hg => ?_) (fun hg => ?_) <;> (try simp only [Bool.not_eq_true', Bool.not_eq_false'] at hg) <;> simp only [hg] <;> (try simp only [decide_eq_true_eq, decide_eq_false_iff_not] at hg) <;> (try (exfalso; omega)))
      | (clear hK K)
      | fail)
    · all_goals (first | refine EndA_cut hcl (by first | exact Or.inr rfl | exact Or.inl rfl) (by simp only [Try.results165, resA, aresL, go_sem, reduceIte, reduceCtorEq, Nat.reduceAdd, Nat.reduceMul, Nat.reduceSub, Nat.reduceLeDiff, Nat.lt_irrefl, Nat.reduceLT, Nat.reduceEqDiff, Nat.reduceBEq, Int.reduceLE, Int.reduceLT, Int.reduceToNat, w64, eq_self] <;> rfl) rfl ?_ | refine EndA_same (by first | exact Or.inr rfl | exact Or.inl rfl) (by simp only [Try.results165, resA, aresL, go_sem, reduceIte, reduceCtorEq, Nat.reduceAdd, Nat.reduceMul, Nat.reduceSub, Nat.reduceLeDiff, Nat.lt_irrefl, Nat.reduceLT, Nat.reduceEqDiff, Nat.reduceBEq, Int.reduceLE, Int.reduceLT, Int.reduceToNat, w64, eq_self] <;> rfl) ?_)
      have hk2 : k < 21 := by rcases Nat.lt_or_ge k 21 with h | h; exact h; have := b3 (by omega); omega
      refine ⟨congrArg LV.bool (Eq.symm ?_), rfl⟩
      rw [List.any_eq_true]
      exact ⟨k, by rw [List.mem_range]; exact hk2, by rw [hQ]; simp at hg; simp [hg]⟩
    · have hk2 : k < 21 := by rcases Nat.lt_or_ge k 21 with h | h; exact h; have := b3 (by omega); omega
      refine hK _ _ (k + 1) ⟨by omega, lt_succ_cases hp (by rw [hQ]; simp at hg; omega)⟩ (by omega) ?_ rfl
      simp only [junkAll, setAll, List.foldl_cons, List.foldl_nil, List.set_cons_succ, List.set_cons_zero, JL, true_or, or_true, and_true, true_and, reduceCtorEq, false_or, or_false, LV.int.injEq, LV.bool.injEq, LV.flt.injEq, LV.sl.injEq, LV.ptr.injEq, eq_self, Int.natCast_add, Int.natCast_one, Int.natCast_zero, Int.ofNat_zero]
      rw [b4]; rfl
    · all_goals (first | refine EndA_cut hcl (by first | exact Or.inr rfl | exact Or.inl rfl) (by simp only [Try.results165, resA, aresL, go_sem, reduceIte, reduceCtorEq, Nat.reduceAdd, Nat.reduceMul, Nat.reduceSub, Nat.reduceLeDiff, Nat.lt_irrefl, Nat.reduceLT, Nat.reduceEqDiff, Nat.reduceBEq, Int.reduceLE, Int.reduceLT, Int.reduceToNat, w64, eq_self] <;> rfl) rfl ?_ | refine EndA_same (by first | exact Or.inr rfl | exact Or.inl rfl) (by simp only [Try.results165, resA, aresL, go_sem, reduceIte, reduceCtorEq, Nat.reduceAdd, Nat.reduceMul, Nat.reduceSub, Nat.reduceLeDiff, Nat.lt_irrefl, Nat.reduceLT, Nat.reduceEqDiff, Nat.reduceBEq, Int.reduceLE, Int.reduceLT, Int.reduceToNat, w64, eq_self] <;> rfl) ?_)
      have hk2 : k = 21 := by rcases Nat.lt_or_ge k 21 with h | h; have := b2 h; omega; omega
      subst hk2
      refine ⟨congrArg LV.bool (Eq.symm ?_), rfl⟩
      rw [List.any_eq_false]
      intro j hj
      rw [List.mem_range] at hj
      simpa using hp j hj
def pow2B (n : Int) : Bool := (List.range 8).any fun k => decide (n = ((2 ^ (1 + k) : Nat) : Int))
theorem l04Power_pow2_c (n : Int) (H : Hp) : FunH Try.prog 165 [.int .i64 n, .int .i64 2, .int .i64 256] H fun r H' => r = .bool (pow2B n) ∧ H' = H := by
  unfold pow2B
  (refine FunH_body tyOk Try.func165 rfl (by kernel_rfl) Try.ntmps165 (fun hcl hbd => ?_); simp only [List.length_cons, List.length_nil, Nat.reduceAdd, Nat.reduceSub, List.replicate, List.cons_append, List.nil_append])
  repeat' (first
    | ((with_reducible refine hK _ _ ?_); clear hK K)
    | ((first | (with_reducible show AOp _ _ _ _ _ _ _)); simp (disch := first | ((with_reducible show liveO _ _ _ = true); first | assumption | (exact liveO_setS (by assumption)) | (exact PtL.live (by assumption)) | (exact PtL.liveA (by assumption) _) | (simp only [go_sem]; done)) | omega | assumption | rfl | (simp only [go_sem]; first | done | omega)) only [go_sem, reduceIte, reduceCtorEq, Nat.reduceAdd, Nat.reduceMul, Nat.reduceSub, Nat.reduceLeDiff, Nat.lt_irrefl, Nat.reduceLT, Nat.reduceEqDiff, Nat.reduceBEq, Int.reduceLE, Int.reduceLT, Int.reduceToNat, w64, eq_self])
    | (with_reducible refine AW_seq (fun K hK => ?_))
    | (with_reducible refine AW_region tyOk ?_)
    | (with_reducible refine AOps_cons (fun K hK => ?_))
    | ((with_reducible refine AOps_nil ?_); try simp only [thenA, blockA, if_true, if_false, reduceIte, Nat.reduceEqDiff, reduceCtorEq])
    | (with_reducible refine AW_block ?_)
    | ((first | (with_reducible refine AW_ret ?_) | (with_reducible refine AW_skip ?_) | (with_reducible refine AW_exit ?_)); try simp only [thenA, blockA, if_true, if_false, reduceIte, Nat.reduceEqDiff, reduceCtorEq])
    | ((with_reducible show AW _ _ (.cond _ _ _) _ _ _); refine AW_cond rfl (fun hg => ?_) (fun hg => ?_) <;> first | (exfalso; simp only [reduceCtorEq] at hg; done) | ((try simp only [Bool.not_eq_true', Bool.not_eq_false', decide_eq_true_eq, decide_eq_false_iff_not] at hg); try (exfalso; omega)))
    | ((with_reducible show _ ∧ _); refine And.intro (fun hg => ?_) (fun hg => ?_) <;> (try simp only [Bool.not_eq_true', Bool.not_eq_false'] at hg) <;> simp only [hg] <;> (try simp only [decide_eq_true_eq, decide_eq_false_iff_not] at hg) <;> (try (exfalso; omega)))
    | (clear hK K)
    | fail)
  refine AW_loopV [6, 7, 9, 10, 11, 12, 13, 14, 15, 16] (fun k : Nat => [(7, .int .i64 ((2 ^ (1 + k) : Nat) : Int))]) (fun _ => H) (fun k => k ≤ 8 ∧ ∀ j, j < k → n ≠ ((2 ^ (1 + j) : Nat) : Int)) (fun k => 8 - k) 0 ⟨Nat.zero_le _, fun j hj => by omega⟩ ?_ rfl ?_
  · simp only [junkAll, setAll, List.foldl_cons, List.foldl_nil, List.set_cons_succ, List.set_cons_zero, JL, true_or, or_true, and_true, true_and, reduceCtorEq, false_or, or_false, LV.int.injEq, LV.bool.injEq, LV.flt.injEq, LV.sl.injEq, LV.ptr.injEq, eq_self, Int.natCast_add, Int.natCast_one, Int.natCast_zero, Int.ofNat_zero]; rfl
  · intro k ⟨hk, hp⟩ K hK
    have b1 : 2 ^ (1 + k) ≤ 2 ^ (1 + 8) := Nat.pow_le_pow_right (by omega) (by omega)
    have b1' : 2 ^ (1 + k) ≤ 2097152 := Nat.le_trans b1 (by decide)
    have b2 : k < 8 → 2 ^ (1 + k) ≤ 256 := fun h => Nat.le_trans (Nat.pow_le_pow_right (by omega) (show 1 + k ≤ 1 + 8 - 1 by omega)) (by decide)
    have b3 : k = 8 → 256 < 2 ^ (1 + k) := fun h => by subst h; decide
    have b4 : 2 ^ (1 + (k + 1)) = 2 * 2 ^ (1 + k) := by rw [← Nat.add_assoc, Nat.pow_succ, Nat.mul_comm]
    obtain ⟨q, hQ⟩ : ∃ q, 2 ^ (1 + k) = q := ⟨_, rfl⟩
    rw [hQ] at b1 b1' b2 b3 b4
    rw [hQ]
    simp only [junkAll, setAll, List.foldl_cons, List.foldl_nil, List.set_cons_succ, List.set_cons_zero]
    repeat' (first
      | ((with_reducible refine hK _ _ ?_); clear hK K)
      | ((first | (with_reducible show AOp _ _ _ _ _ _ _)); simp (disch := first | ((with_reducible show liveO _ _ _ = true); first | assumption | (exact liveO_setS (by assumption)) | (exact PtL.live (by assumption)) | (exact PtL.liveA (by assumption) _) | (simp only [go_sem]; done)) | omega | assumption | rfl | (simp only [go_sem]; first | done | omega)) only [go_sem, reduceIte, reduceCtorEq, Nat.reduceAdd, Nat.reduceMul, Nat.reduceSub, Nat.reduceLeDiff, Nat.lt_irrefl, Nat.reduceLT, Nat.reduceEqDiff, Nat.reduceBEq, Int.reduceLE, Int.reduceLT, Int.reduceToNat, w64, eq_self])
      | (with_reducible refine AW_seq (fun K hK => ?_))
      | (with_reducible refine AW_region tyOk ?_)
      | (with_reducible refine AOps_cons (fun K hK => ?_))
      | ((with_reducible refine AOps_nil ?_); try simp only [thenA, blockA, if_true, if_false, reduceIte, Nat.reduceEqDiff, reduceCtorEq])
      | (with_reducible refine AW_block ?_)
      | ((first | (with_reducible refine AW_ret ?_) | (with_reducible refine AW_skip ?_) | (with_reducible refine AW_exit ?_)); try simp only [thenA, blockA, if_true, if_false, reduceIte, Nat.reduceEqDiff, reduceCtorEq])
      | ((with_reducible show AW _ _ (.cond _ _ _) _ _ _); refine AW_cond rfl (fun hg => ?_) (fun hg => ?_) <;> first | (exfalso; simp only [reduceCtorEq] at hg; done) | ((try simp only [Bool.not_eq_true', Bool.not_eq_false', decide_eq_true_eq, decide_eq_false_iff_not] at hg); try (exfalso; omega)))
      | ((with_reducible show _ ∧ _); refine And.intro (fun hg => ?_) (fun hg => ?_) <;> (try simp only [Bool.not_eq_true', Bool.not_eq_false'] at hg) <;> simp only [hg] <;> (try simp only [decide_eq_true_eq, decide_eq_false_iff_not] at hg) <;> (try (exfalso; omega)))
      | (clear hK K)
      | fail)
    · all_goals (first | refine EndA_cut hcl (by first | exact Or.inr rfl | exact Or.inl rfl) (by simp only [Try.results165, resA, aresL, go_sem, reduceIte, reduceCtorEq, Nat.reduceAdd, Nat.reduceMul, Nat.reduceSub, Nat.reduceLeDiff, Nat.lt_irrefl, Nat.reduceLT, Nat.reduceEqDiff, Nat.reduceBEq, Int.reduceLE, Int.reduceLT, Int.reduceToNat, w64, eq_self] <;> rfl) rfl ?_ | refine EndA_same (by first | exact Or.inr rfl | exact Or.inl rfl) (by simp only [Try.results165, resA, aresL, go_sem, reduceIte, reduceCtorEq, Nat.reduceAdd, Nat.reduceMul, Nat.reduceSub, Nat.reduceLeDiff, Nat.lt_irrefl, Nat.reduceLT, Nat.reduceEqDiff, Nat.reduceBEq, Int.reduceLE, Int.reduceLT, Int.reduceToNat, w64, eq_self] <;> rfl) ?_)
      have hk2 : k < 8 := by rcases Nat.lt_or_ge k 8 with h | h; exact h; have := b3 (by omega); omega
      refine ⟨congrArg LV.bool (Eq.symm ?_), rfl⟩
      rw [List.any_eq_true]
      exact ⟨k, by rw [List.mem_range]; exact hk2, by rw [hQ]; simp at hg; simp [hg]⟩
    · have hk2 : k < 8 := by rcases Nat.lt_or_ge k 8 with h | h; exact h; have := b3 (by omega); omega
      refine hK _ _ (k + 1) ⟨by omega, lt_succ_cases hp (by rw [hQ]; simp at hg; omega)⟩ (by omega) ?_ rfl
      simp only [junkAll, setAll, List.foldl_cons, List.foldl_nil, List.set_cons_succ, List.set_cons_zero, JL, true_or, or_true, and_true, true_and, reduceCtorEq, false_or, or_false, LV.int.injEq, LV.bool.injEq, LV.flt.injEq, LV.sl.injEq, LV.ptr.injEq, eq_self, Int.natCast_add, Int.natCast_one, Int.natCast_zero, Int.ofNat_zero]
      rw [b4]; rfl
    · all_goals (first | refine EndA_cut hcl (by first | exact Or.inr rfl | exact Or.inl rfl) (by simp only [Try.results165, resA, aresL, go_sem, reduceIte, reduceCtorEq, Nat.reduceAdd, Nat.reduceMul, Nat.reduceSub, Nat.reduceLeDiff, Nat.lt_irrefl, Nat.reduceLT, Nat.reduceEqDiff, Nat.reduceBEq, Int.reduceLE, Int.reduceLT, Int.reduceToNat, w64, eq_self] <;> rfl) rfl ?_ | refine EndA_same (by first | exact Or.inr rfl | exact Or.inl rfl) (by simp only [Try.results165, resA, aresL, go_sem, reduceIte, reduceCtorEq, Nat.reduceAdd, Nat.reduceMul, Nat.reduceSub, Nat.reduceLeDiff, Nat.lt_irrefl, Nat.reduceLT, Nat.reduceEqDiff, Nat.reduceBEq, Int.reduceLE, Int.reduceLT, Int.reduceToNat, w64, eq_self] <;> rfl) ?_)
      have hk2 : k = 8 := by rcases Nat.lt_or_ge k 8 with h | h; have := b2 h; omega; omega
      subst hk2
      refine ⟨congrArg LV.bool (Eq.symm ?_), rfl⟩
      rw [List.any_eq_false]
      intro j hj
      rw [List.mem_range] at hj
      simpa using hp j hj
def pow16B (n : Int) : Bool := (List.range 5).any fun k => decide (n = ((2 ^ (4 + k) : Nat) : Int))
theorem l04Power_pow16_c (n : Int) (H : Hp) : FunH Try.prog 165 [.int .i64 n, .int .i64 16, .int .i64 256] H fun r H' => r = .bool (pow16B n) ∧ H' = H := by
  unfold pow16B
  (refine FunH_body tyOk Try.func165 rfl (by kernel_rfl) Try.ntmps165 (fun hcl hbd => ?_); simp only [List.length_cons, List.length_nil, Nat.reduceAdd, Nat.reduceSub, List.replicate, List.cons_append, List.nil_append])
  repeat' (first
    | ((with_reducible refine hK _ _ ?_); clear hK K)
    | ((first | (with_reducible show AOp _ _ _ _ _ _ _)); simp (disch := first | ((with_reducible show liveO _ _ _ = true); first | assumption | (exact liveO_setS (by assumption)) | (exact PtL.live (by assumption)) | (exact PtL.liveA (by assumption) _) | (simp only [go_sem]; done)) | omega | assumption | rfl | (simp only [go_sem]; first | done | omega)) only [go_sem, reduceIte, reduceCtorEq, Nat.reduceAdd, Nat.reduceMul, Nat.reduceSub, Nat.reduceLeDiff, Nat.lt_irrefl, Nat.reduceLT, Nat.reduceEqDiff, Nat.reduceBEq, Int.reduceLE, Int.reduceLT, Int.reduceToNat, w64, eq_self])
    | (with_reducible refine AW_seq (fun K hK => ?_))
    | (with_reducible refine AW_region tyOk ?_)
    | (with_reducible refine AOps_cons (fun K hK => ?_))
    | ((with_reducible refine AOps_nil ?_); try simp only [thenA, blockA, if_true, if_false, reduceIte, Nat.reduceEqDiff, reduceCtorEq])
    | (with_reducible refine AW_block ?_)
    | ((first | (with_reducible refine AW_ret ?_) | (with_reducible refine AW_skip ?_) | (with_reducible refine AW_exit ?_)); try simp only [thenA, blockA, if_true, if_false, reduceIte, Nat.reduceEqDiff, reduceCtorEq])
    | ((with_reducible show AW _ _ (.cond _ _ _) _ _ _); refine AW_cond rfl (fun hg => ?_) (fun hg => ?_) <;> first | (exfalso; simp only [reduceCtorEq] at hg; done) | ((try simp only [Bool.not_eq_true', Bool.not_eq_false', decide_eq_true_eq, decide_eq_false_iff_not] at hg); try (exfalso; omega)))
    | ((with_reducible show _ ∧ _); refine And.intro (fun hg => ?_) (fun hg => ?_) <;> (try simp only [Bool.not_eq_true', Bool.not_eq_false'] at hg) <;> simp only [hg] <;> (try simp only [decide_eq_true_eq, decide_eq_false_iff_not] at hg) <;> (try (exfalso; omega)))
    | (clear hK K)
    | fail)
  refine AW_loopV [6, 7, 9, 10, 11, 12, 13, 14, 15, 16] (fun k : Nat => [(7, .int .i64 ((2 ^ (4 + k) : Nat) : Int))]) (fun _ => H) (fun k => k ≤ 5 ∧ ∀ j, j < k → n ≠ ((2 ^ (4 + j) : Nat) : Int)) (fun k => 5 - k) 0 ⟨Nat.zero_le _, fun j hj => by omega⟩ ?_ rfl ?_
  · simp only [junkAll, setAll, List.foldl_cons, List.foldl_nil, List.set_cons_succ, List.set_cons_zero, JL, true_or, or_true, and_true, true_and, reduceCtorEq, false_or, or_false, LV.int.injEq, LV.bool.injEq, LV.flt.injEq, LV.sl.injEq, LV.ptr.injEq, eq_self, Int.natCast_add, Int.natCast_one, Int.natCast_zero, Int.ofNat_zero]; rfl
  · intro k ⟨hk, hp⟩ K hK
    have b1 : 2 ^ (4 + k) ≤ 2 ^ (4 + 5) := Nat.pow_le_pow_right (by omega) (by omega)
    have b1' : 2 ^ (4 + k) ≤ 2097152 := Nat.le_trans b1 (by decide)
    have b2 : k < 5 → 2 ^ (4 + k) ≤ 256 := fun h => Nat.le_trans (Nat.pow_le_pow_right (by omega) (show 4 + k ≤ 4 + 5 - 1 by omega)) (by decide)
    have b3 : k = 5 → 256 < 2 ^ (4 + k) := fun h => by subst h; decide
    have b4 : 2 ^ (4 + (k + 1)) = 2 * 2 ^ (4 + k) := by rw [← Nat.add_assoc, Nat.pow_succ, Nat.mul_comm]
    obtain ⟨q, hQ⟩ : ∃ q, 2 ^ (4 + k) = q := ⟨_, rfl⟩
    rw [hQ] at b1 b1' b2 b3 b4
    rw [hQ]
    simp only [junkAll, setAll, List.foldl_cons, List.foldl_nil, List.set_cons_succ, List.set_cons_zero]
    repeat' (first
      | ((with_reducible refine hK _ _ ?_); clear hK K)
      | ((first | (with_reducible show AOp _ _ _ _ _ _ _)); simp (disch := first | ((with_reducible show liveO _ _ _ = true); first | assumption | (exact liveO_setS (by assumption)) | (exact PtL.live (by assumption)) | (exact PtL.liveA (by assumption) _) | (simp only [go_sem]; done)) | omega | assumption | rfl | (simp only [go_sem]; first | done | omega)) only [go_sem, reduceIte, reduceCtorEq, Nat.reduceAdd, Nat.reduceMul, Nat.reduceSub, Nat.reduceLeDiff, Nat.lt_irrefl, Nat.reduceLT, Nat.reduceEqDiff, Nat.reduceBEq, Int.reduceLE, Int.reduceLT, Int.reduceToNat, w64, eq_self])
      | (with_reducible refine AW_seq (fun K hK => ?_))
      | (with_reducible refine AW_region tyOk ?_)
      | (with_reducible refine AOps_cons (fun K hK => ?_))
      | ((with_reducible refine AOps_nil ?_); try simp only [thenA, blockA, if_true, if_false, reduceIte, Nat.reduceEqDiff, reduceCtorEq])
      | (with_reducible refine AW_block ?_)
      | ((first | (with_reducible refine AW_ret ?_) | (with_reducible refine AW_skip ?_) | (with_reducible refine AW_exit ?_)); try simp only [thenA, blockA, if_true, if_false, reduceIte, Nat.reduceEqDiff, reduceCtorEq])
      | ((with_reducible show AW _ _ (.cond _ _ _) _ _ _); refine AW_cond rfl (fun hg => ?_) (fun hg => ?_) <;> first | (exfalso; simp only [reduceCtorEq] at hg; done) | ((try simp only [Bool.not_eq_true', Bool.not_eq_false', decide_eq_true_eq, decide_eq_false_iff_not] at hg); try (exfalso; omega)))
      | ((with_reducible show _ ∧ _); refine And.intro (fun hg => ?_) (fun hg => ?_) <;> (try simp only [Bool.not_eq_true', Bool.not_eq_false'] at hg) <;> simp only [hg] <;> (try simp only [decide_eq_true_eq, decide_eq_false_iff_not] at hg) <;> (try (exfalso; omega)))
      | (clear hK K)
      | fail)
    · all_goals (first | refine EndA_cut hcl (by first | exact Or.inr rfl | exact Or.inl rfl) (by simp only [Try.results165, resA, aresL, go_sem, reduceIte, reduceCtorEq, Nat.reduceAdd, Nat.reduceMul, Nat.reduceSub, Nat.reduceLeDiff, Nat.lt_irrefl, Nat.reduceLT, Nat.reduceEqDiff, Nat.reduceBEq, Int.reduceLE, Int.reduceLT, Int.reduceToNat, w64, eq_self] <;> rfl) rfl ?_ | refine EndA_same (by first | exact Or.inr rfl | exact Or.inl rfl) (by simp only [Try.results165, resA, aresL, go_sem, reduceIte, reduceCtorEq, Nat.reduceAdd, Nat.reduceMul, Nat.reduceSub, Nat.reduceLeDiff, Nat.lt_irrefl, Nat.reduceLT, Nat.reduceEqDiff, Nat.reduceBEq, Int.reduceLE, Int.reduceLT, Int.reduceToNat, w64, eq_self] <;> rfl) ?_)
      have hk2 : k < 5 := by rcases Nat.lt_or_ge k 5 with h | h; exact h; have := b3 (by omega); omega
      refine ⟨congrArg LV.bool (Eq.symm ?_), rfl⟩
      rw [List.any_eq_true]
      exact ⟨k, by rw [List.mem_range]; exact hk2, by rw [hQ]; simp at hg; simp [hg]⟩
    · have hk2 : k < 5 := by rcases Nat.lt_or_ge k 5 with h | h; exact h; have := b3 (by omega); omega
      refine hK _ _ (k + 1) ⟨by omega, lt_succ_cases hp (by rw [hQ]; simp at hg; omega)⟩ (by omega) ?_ rfl
      simp only [junkAll, setAll, List.foldl_cons, List.foldl_nil, List.set_cons_succ, List.set_cons_zero, JL, true_or, or_true, and_true, true_and, reduceCtorEq, false_or, or_false, LV.int.injEq, LV.bool.injEq, LV.flt.injEq, LV.sl.injEq, LV.ptr.injEq, eq_self, Int.natCast_add, Int.natCast_one, Int.natCast_zero, Int.ofNat_zero]
      rw [b4]; rfl
    · all_goals (first | refine EndA_cut hcl (by first | exact Or.inr rfl | exact Or.inl rfl) (by simp only [Try.results165, resA, aresL, go_sem, reduceIte, reduceCtorEq, Nat.reduceAdd, Nat.reduceMul, Nat.reduceSub, Nat.reduceLeDiff, Nat.lt_irrefl, Nat.reduceLT, Nat.reduceEqDiff, Nat.reduceBEq, Int.reduceLE, Int.reduceLT, Int.reduceToNat, w64, eq_self] <;> rfl) rfl ?_ | refine EndA_same (by first | exact Or.inr rfl | exact Or.inl rfl) (by simp only [Try.results165, resA, aresL, go_sem, reduceIte, reduceCtorEq, Nat.reduceAdd, Nat.reduceMul, Nat.reduceSub, Nat.reduceLeDiff, Nat.lt_irrefl, Nat.reduceLT, Nat.reduceEqDiff, Nat.reduceBEq, Int.reduceLE, Int.reduceLT, Int.reduceToNat, w64, eq_self] <;> rfl) ?_)
      have hk2 : k = 5 := by rcases Nat.lt_or_ge k 5 with h | h; have := b2 h; omega; omega
      subst hk2
      refine ⟨congrArg LV.bool (Eq.symm ?_), rfl⟩
      rw [List.any_eq_false]
      intro j hj
      rw [List.mem_range] at hj
      simpa using hp j hj
theorem pow1B_powB (n : Int) : pow1B n = powB n := by
  rw [Bool.eq_iff_iff, powB_iff]
  unfold pow1B
  rw [List.any_eq_true]
  constructor
  · rintro ⟨k, hk, h⟩
    exact ⟨k, by rw [List.mem_range] at hk; omega, by simpa using h⟩
  · rintro ⟨k, hk, h⟩
    exact ⟨k, by rw [List.mem_range]; omega, by simpa using h⟩
/-! Windows. -/
def runW (zs : List Int) : Nat → Int
  | 0 => 0
  | k + 1 => if k = 0 ∨ ix zs k ≠ ix zs (k - 1) then 1 else runW zs k + 1
theorem runW_bound (zs : List Int) : ∀ k : Nat, 0 ≤ runW zs k ∧ runW zs k ≤ k
  | 0 => by simp [runW]
  | k + 1 => by
    have := runW_bound zs k
    rw [runW]; split <;> omega
def goodW (zs : List Int) (p : Int) (k : Nat) : Bool := powB (ix zs k) && !(decide (0 < k) && decide (ix zs (k - 1) < ix zs k)) && decide (runW zs (k + 1) ≤ p + 1)
def sizesB (zs : List Int) (p : Int) : Bool := (List.range zs.length).all (goodW zs p)
theorem sizesB_bad {zs : List Int} {p : Int} {k : Nat} (hk : k < zs.length) (h : goodW zs p k = false) : sizesB zs p = false := by
  unfold sizesB; rw [List.all_eq_false]; exact ⟨k, by rw [List.mem_range]; exact hk, by simp [h]⟩
theorem sizesB_good {zs : List Int} {p : Int} (h : ∀ k, k < zs.length → goodW zs p k = true) : sizesB zs p = true := by
  unfold sizesB; rw [List.all_eq_true]; exact fun k hk => h k (by rw [List.mem_range] at hk; exact hk)
def winB (l p : Int) (ts zs : List Int) : Bool := inB l 1 1000000 && inB p 1 16 && decide (ts.length ≤ 128) && decide (zs.length = ts.length) && timesB ts && sizesB zs p
end Go.Proofs.Ytkkcfbpgcekmjaa
