/- Ranks in lists, in the abstract machine. -/
import Derived.Test.YteejnmgjjefbiaaBo
namespace Go.Proofs.Yteejnmgjjefbiaa
open Go.RowKit
set_option linter.unusedSimpArgs false
set_option linter.unusedVariables false
set_option maxRecDepth 100000

theorem rank_c (lv : LV) (xs : List (Option Nat)) (x : Option Nat) (H : Hp) (h : RdL H lv (xs.map (LV.flt .f32))) (hn : xs.length ≤ 1048576) : FunH Try.prog 31 [lv, .flt .f32 x] H fun r H' => r = .int .i64 ((xs.countP fun y => fLe .f32 y x : Nat)) ∧ H' = H := by
  (refine FunH_body tyOk Try.func31 rfl (by kernel_rfl) Try.ntmps31 (fun hcl hbd => ?_); simp only [List.length_cons, List.length_nil, Nat.reduceAdd, Nat.reduceSub, List.replicate, List.cons_append, List.nil_append])
  repeat' (first
    | ((with_reducible refine hK _ _ ?_); clear hK K)
    | ((first | (with_reducible show AOp _ _ _ _ _ _ _)); simp (disch := first | ((with_reducible show liveO _ _ _ = true); first | assumption | (exact liveO_setS (by assumption)) | (exact PtL.live (by assumption)) | (exact PtL.liveA (by assumption) _) | (simp only [go_sem]; done)) | omega | assumption | rfl | (simp only [go_sem]; first | done | omega)) only [go_sem, reduceIte, reduceCtorEq, Nat.reduceAdd, Nat.reduceMul, Nat.reduceSub, Nat.reduceLeDiff, Nat.lt_irrefl, Nat.reduceLT, Nat.reduceEqDiff, Nat.reduceBEq, Int.reduceLE, Int.reduceLT, Int.reduceToNat, w64, eq_self, h.lenm])
    | (with_reducible refine AW_seq (fun K hK => ?_))
    | (with_reducible refine AW_region tyOk ?_)
    | (with_reducible refine AOps_cons (fun K hK => ?_))
    | ((with_reducible refine AOps_nil ?_); try simp only [thenA, blockA, if_true, if_false, reduceIte, Nat.reduceEqDiff, reduceCtorEq])
    | (with_reducible refine AW_block ?_)
    | ((first | (with_reducible refine AW_ret ?_) | (with_reducible refine AW_skip ?_) | (with_reducible refine AW_exit ?_)); try simp only [thenA, blockA, if_true, if_false, reduceIte, Nat.reduceEqDiff, reduceCtorEq])
    | ((with_reducible show AW _ _ (.cond _ _ _) _ _ _); refine AW_cond rfl (fun hg => ?_) (fun hg => ?_) <;> first | (exfalso; simp only [reduceCtorEq] at hg; done) | ((try simp only [Bool.not_eq_true', Bool.not_eq_false', decide_eq_true_eq, decide_eq_false_iff_not] at hg); try (exfalso; omega)))
    | ((with_reducible show _ ∧ _); refine And.intro (fun hg => ?_) (fun hg => ?_) <;> (try simp only [Bool.not_eq_true', Bool.not_eq_false'] at hg) <;> simp only [hg] <;> (try simp only [decide_eq_true_eq, decide_eq_false_iff_not] at hg) <;> (try (exfalso; omega)))
    | (clear hK K)
    | fail)
  refine AW_loopV [5, 7, 10, 11, 12, 13, 14, 15, 16, 17, 18, 19] (fun k : Nat => [(5, .int .i64 ((xs.take k).countP fun y => fLe .f32 y x : Nat)), (10, .int .i64 (k : Nat))]) (fun _ => H) (fun k => k ≤ xs.length) (fun k => xs.length - k) 0 (Nat.zero_le _) ?_ rfl ?_
  · simp only [junkAll, setAll, List.foldl_cons, List.foldl_nil, List.set_cons_succ, List.set_cons_zero, JL, true_or, or_true, and_true, true_and, reduceCtorEq, false_or, or_false, LV.int.injEq, LV.bool.injEq, LV.flt.injEq, LV.sl.injEq, LV.ptr.injEq, eq_self, Int.natCast_add, Int.natCast_one, Int.natCast_zero, Int.ofNat_zero]; rfl
  · intro k hk K hK
    have hb : (xs.take k).countP (fun y => fLe .f32 y x) ≤ k := Nat.le_trans List.countP_le_length (by simp; omega)
    simp only [junkAll, setAll, List.foldl_cons, List.foldl_nil, List.set_cons_succ, List.set_cons_zero]
    repeat' (first
      | ((with_reducible refine hK _ _ ?_); clear hK K)
      | ((first | (with_reducible show AOp _ _ _ _ _ _ _)); simp (disch := first | ((with_reducible show liveO _ _ _ = true); first | assumption | (exact liveO_setS (by assumption)) | (exact PtL.live (by assumption)) | (exact PtL.liveA (by assumption) _) | (simp only [go_sem]; done)) | omega | assumption | rfl | (simp only [go_sem]; first | done | omega)) only [go_sem, reduceIte, reduceCtorEq, Nat.reduceAdd, Nat.reduceMul, Nat.reduceSub, Nat.reduceLeDiff, Nat.lt_irrefl, Nat.reduceLT, Nat.reduceEqDiff, Nat.reduceBEq, Int.reduceLE, Int.reduceLT, Int.reduceToNat, w64, eq_self, h.lenm, h.idxm, h.ldm])
      | (with_reducible refine AW_seq (fun K hK => ?_))
      | (with_reducible refine AW_region tyOk ?_)
      | (with_reducible refine AOps_cons (fun K hK => ?_))
      | ((with_reducible refine AOps_nil ?_); try simp only [thenA, blockA, if_true, if_false, reduceIte, Nat.reduceEqDiff, reduceCtorEq])
      | (with_reducible refine AW_block ?_)
      | ((first | (with_reducible refine AW_ret ?_) | (with_reducible refine AW_skip ?_) | (with_reducible refine AW_exit ?_)); try simp only [thenA, blockA, if_true, if_false, reduceIte, Nat.reduceEqDiff, reduceCtorEq])
      | ((with_reducible show AW _ _ (.cond _ _ _) _ _ _); refine AW_cond rfl (fun hg => ?_) (fun hg => ?_) <;> first | (exfalso; simp only [reduceCtorEq] at hg; done) | ((try simp only [Bool.not_eq_true', Bool.not_eq_false', decide_eq_true_eq, decide_eq_false_iff_not] at hg); try (exfalso; omega)))
      | ((with_reducible show _ ∧ _); refine And.intro (fun hg => ?_) (fun hg => ?_) <;> (try simp only [Bool.not_eq_true', Bool.not_eq_false'] at hg) <;> simp only [hg] <;> (try simp only [decide_eq_true_eq, decide_eq_false_iff_not] at hg) <;> (try (exfalso; omega)))
      | (clear hK K)
      | fail)
    · refine hK _ _ (k + 1) (by omega) (by omega) ?_ rfl
      simp only [junkAll, setAll, List.foldl_cons, List.foldl_nil, List.set_cons_succ, List.set_cons_zero, JL, true_or, or_true, and_true, true_and, reduceCtorEq, false_or, or_false, LV.int.injEq, LV.bool.injEq, LV.flt.injEq, LV.sl.injEq, LV.ptr.injEq, eq_self, Int.natCast_add, Int.natCast_one, Int.natCast_zero, Int.ofNat_zero]
      rw [take_ix _ _ (by omega), List.countP_append]; simp [hg]; try rfl
    · refine hK _ _ (k + 1) (by omega) (by omega) ?_ rfl
      simp only [junkAll, setAll, List.foldl_cons, List.foldl_nil, List.set_cons_succ, List.set_cons_zero, JL, true_or, or_true, and_true, true_and, reduceCtorEq, false_or, or_false, LV.int.injEq, LV.bool.injEq, LV.flt.injEq, LV.sl.injEq, LV.ptr.injEq, eq_self, Int.natCast_add, Int.natCast_one, Int.natCast_zero, Int.ofNat_zero]
      rw [take_ix _ _ (by omega), List.countP_append]; simp [hg]
    · all_goals (first | refine EndA_cut hcl (by first | exact Or.inr rfl | exact Or.inl rfl) (by simp only [Try.results31, resA, aresL, go_sem, reduceIte, reduceCtorEq, Nat.reduceAdd, Nat.reduceMul, Nat.reduceSub, Nat.reduceLeDiff, Nat.lt_irrefl, Nat.reduceLT, Nat.reduceEqDiff, Nat.reduceBEq, Int.reduceLE, Int.reduceLT, Int.reduceToNat, w64, eq_self] <;> rfl) rfl ?_ | refine EndA_same (by first | exact Or.inr rfl | exact Or.inl rfl) (by simp only [Try.results31, resA, aresL, go_sem, reduceIte, reduceCtorEq, Nat.reduceAdd, Nat.reduceMul, Nat.reduceSub, Nat.reduceLeDiff, Nat.lt_irrefl, Nat.reduceLT, Nat.reduceEqDiff, Nat.reduceBEq, Int.reduceLE, Int.reduceLT, Int.reduceToNat, w64, eq_self] <;> rfl) ?_)
      have e : k = xs.length := by omega
      subst e
      exact ⟨by rw [List.take_length], rfl⟩
theorem countP_pre {α : Type} [Inhabited α] (p : α → Bool) : ∀ (xs : List α), (∀ i, i + 1 < xs.length → p (ix xs (i + 1)) = true → p (ix xs i) = true) → ∀ i, i < xs.length → p (ix xs i) = decide (i < xs.countP p)
  | [], _, i, hi => by simp at hi
  | a :: xs, h, i, hi => by
    have e0 : ix (a :: xs) 0 = a := rfl
    have es : ∀ j, ix (a :: xs) (j + 1) = ix xs j := fun j => rfl
    have ih := countP_pre p xs fun j hj hp => by
      have := h (j + 1) (by simpa using hj) (by rw [es]; exact hp)
      rwa [es] at this
    cases ha : p a with
    | true =>
      rw [List.countP_cons_of_pos ha]
      cases i with
      | zero => rw [e0, ha]; simp
      | succ j =>
        rw [es, ih j (by simpa using hi)]
        simp
    | false =>
      rw [List.countP_cons_of_neg (by simp [ha])]
      have hz : ∀ j, j < (a :: xs).length → p (ix (a :: xs) j) = false := by
        intro j
        induction j with
        | zero => intro _; rw [e0]; exact ha
        | succ j ihj =>
          intro hj
          cases hp : p (ix (a :: xs) (j + 1)) with
          | false => rfl
          | true => have := h j hj hp; rw [ihj (by omega)] at this; cases this
      have hc : xs.countP p = 0 := by
        rw [List.countP_eq_zero]
        intro x hx
        obtain ⟨j, hj, rfl⟩ := List.getElem_of_mem hx
        have := hz (j + 1) (by simpa using hj)
        rw [es, ix_eq _ _ hj] at this
        simp [this]
      rw [hz i hi, hc]; simp
theorem asc_rank {vs : List (Option Nat)} {x : Option Nat} (h : ascFB vs = true) (hx : finO x = true) : ∀ i, i < vs.length → fLe .f32 (ix vs i) x = decide (i < vs.countP fun y => fLe .f32 y x) := by
  unfold ascFB at h
  rw [Bool.and_eq_true] at h
  have hf : ∀ j, j < vs.length → finO (ix vs j) = true := fun j hj => List.all_eq_true.1 h.1 _ (ix_mem _ _ hj)
  refine countP_pre (fun y => fLe .f32 y x) vs fun j hj hp => ?_
  have h2 := (ascB_iff ltF vs).1 h.2 j hj
  unfold ltF at h2
  rw [fLt_kO (hf _ hj) (hf _ (by omega))] at h2
  rw [fLe_kO (hf _ hj) hx] at hp
  rw [fLe_kO (hf _ (by omega)) hx]
  simp at h2 hp ⊢; omega
theorem sumI_le {xs : List Int} (hb : ∀ x ∈ xs, 0 ≤ x) : ∀ m k, k + m = xs.length → sumI (xs.take k) ≤ sumI xs
  | 0, k, h => by rw [List.take_of_length_le (by omega)]; exact Int.le_refl _
  | m + 1, k, h => by
    have h1 := sumI_le hb m (k + 1) (by omega)
    rw [sumI_take (by omega)] at h1
    have h2 := hb _ (ix_mem xs k (by omega))
    omega
theorem asliceS_0 (te : TE) (H : Hp) (x : LV) (hi mx : Option LV) : asliceS te H x none hi mx = asliceS te H x (some (.int .i64 0)) hi mx := by
  have h : ∀ b : Nat, asliceB b none 0 = asliceB b (some (.int .i64 0)) 0 := by intro b; simp [asliceB]
  unfold asliceS; cases x <;> simp only [h]
end Go.Proofs.Yteejnmgjjefbiaa
