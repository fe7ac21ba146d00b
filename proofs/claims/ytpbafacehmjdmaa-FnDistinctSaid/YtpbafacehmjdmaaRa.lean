/- Keys of a source, not all of them different, in the abstract machine. -/
import Derived.Test.YtpbafacehmjdmaaJd
namespace Go.Proofs.Ytpbafacehmjdmaa
open Go.RowKit
set_option linter.unusedSimpArgs false
set_option linter.unusedVariables false
set_option maxRecDepth 100000

/-- How many choices were made ahead of a key. -/
def rkP (xs : List Int) : Nat → Nat
  | 0 => 0
  | k + 1 => rkP xs k + (if (srA xs (rkP xs k + 1)).tmod 3 = 0 then 4 else 2)
def rkX (xs : List Int) (k : Nat) : Int := if (srA xs (rkP xs k + 1)).tmod 3 = 0 then pk2 xs (rkP xs k + 2) 4294967296 else (srA xs (rkP xs k)).tmod 30
def rkL (xs : List Int) (n : Nat) : List Int := (List.range n).map (rkX xs)
theorem rkL_len (xs : List Int) (n : Nat) : (rkL xs n).length = n := by simp [rkL]
theorem rkL_succ (xs : List Int) (n : Nat) : rkL xs (n + 1) = rkL xs n ++ [rkX xs n] := by simp [rkL, List.range_succ]
theorem rkP_le (xs : List Int) : ∀ k, rkP xs k ≤ 4 * k
  | 0 => Nat.le_refl _
  | k + 1 => by
    have := rkP_le xs k
    show rkP xs k + _ ≤ _
    split <;> omega
theorem rkX_in {xs : List Int} (h : byB xs) (k : Nat) : 0 ≤ rkX xs k ∧ rkX xs k ≤ 4294967295 := by
  have h1 := pk2_in h (rkP xs k + 2) (n := 4294967296) (by omega)
  have h2 := tmod_in (srA_in h (rkP xs k)).1 (n := 30) (by omega)
  unfold rkX
  split <;> omega
theorem rkL_in {xs : List Int} (h : byB xs) (n : Nat) : ∀ x ∈ rkL xs n, 0 ≤ x ∧ x ≤ 4294967295 := fun x hx => by
  unfold rkL at hx
  obtain ⟨k, _, rfl⟩ := List.mem_map.1 hx
  exact rkX_in h k
set_option maxHeartbeats 2000000 in
theorem one_c (id ver el : Nat) (lv : LV) (xs : List Int) (a : Nat) (seed n : Int) (H : Hp) (hp : H[id]? = some ⟨ver, false, el, 3, [lv, .int .i64 (a : Nat), .int .u64 seed]⟩) (h : RdL H lv (xs.map (LV.int .u8))) (hb : byB xs) (hl : xs.length ≤ 9223372036854775807) (ha : a ≤ 1000000) (hn : 2 ≤ n ∧ n ≤ 200) :
    FunH Try.prog 19 [.ptr id ver 0, .int .i64 n] H fun r H' => r = .bool ((srO xs a seed).tmod n == 0) ∧ H' = H.set id ⟨ver, false, el, 3, [lv, .int .i64 ((a + 1 : Nat)), .int .u64 (srS seed (srB xs a))]⟩ := by
  (refine FunH_body tyOk Try.func19 rfl (by kernel_rfl) Try.ntmps19 (fun hcl hbd => ?_); simp only [List.length_cons, List.length_nil, Nat.reduceAdd, Nat.reduceSub, List.replicate, List.cons_append, List.nil_append])
  repeat' (first
 | ((with_reducible refine hK _ _ ?_); clear hK K)
 | ((first | (with_reducible show AOp _ _ _ _ _ _ _)); simp (disch := first | ((with_reducible show liveO _ _ _ = true); first | assumption | (exact liveO_setS (by assumption)) | (exact PtL.live (by assumption)) | (exact PtL.liveA (by assumption) _) | (simp only [go_sem]; done)) | omega | assumption | rfl | (simp only [go_sem]; first | done | omega)) only [go_sem, reduceIte, reduceCtorEq, Nat.reduceAdd, Nat.reduceMul, Nat.reduceSub, Nat.reduceLeDiff, Nat.lt_irrefl, Nat.reduceLT, Nat.reduceEqDiff, Nat.reduceBEq, Int.reduceLE, Int.reduceLT, Int.reduceToNat, w64, eq_self])
 | (with_reducible refine AW_seq (fun K hK => ?_))
 | (with_reducible refine AW_region tyOk ?_)
 | (with_reducible refine AOps_cons (fun K hK => ?_))
 | ((with_reducible refine AOps_nil ?_); try simp only [thenA, blockA, if_true, if_false, reduceIte, Nat.reduceEqDiff, reduceCtorEq])
 | (with_reducible refine AW_block ?_)
 | ((first | (with_reducible refine AW_ret ?_) | (with_reducible refine AW_skip ?_) | (with_reducible refine AW_exit ?_)); try simp only [thenA, blockA, if_true, if_false, reduceIte, Nat.reduceEqDiff, reduceCtorEq])
 | ((with_reducible show AW _ _ (.cond _ _ _) _ _ _); refine AW_cond rfl (fun hg => ?_) (fun hg => ?_) <;> first | (exfalso; simp only [reduceCtorEq] at hg; done) | ((try simp only [Bool.not_eq_true', Bool.not_eq_false', decide_eq_true_eq, decide_eq_false_iff_not] at hg); try (exfalso; omega)))
 | ((with_reducible show _ ∧ _); refine And.intro (fun hg => ?_) (fun hg => ?_) <;> (try simp only [Bool.not_eq_true', Bool.not_eq_false'] at hg) <;> simp only [hg] <;> (try simp only [decide_eq_true_eq, decide_eq_false_iff_not] at hg) <;> (try (exfalso; omega)))
 | ((with_reducible apply FunH_intro); (first | exact pick_c id ver el lv xs a seed n _ hp h hb hl ha hn))
 | (clear hK K)
    | fail)
  all_goals (first | refine EndA_cut hcl (by first | exact Or.inr rfl | exact Or.inl rfl) (by simp only [Try.results19, resA, aresL, go_sem, reduceIte, reduceCtorEq, Nat.reduceAdd, Nat.reduceMul, Nat.reduceSub, Nat.reduceLeDiff, Nat.lt_irrefl, Nat.reduceLT, Nat.reduceEqDiff, Nat.reduceBEq, Int.reduceLE, Int.reduceLT, Int.reduceToNat, w64, eq_self] <;> rfl) rfl ?_ | refine EndA_same (by first | exact Or.inr rfl | exact Or.inl rfl) (by simp only [Try.results19, resA, aresL, go_sem, reduceIte, reduceCtorEq, Nat.reduceAdd, Nat.reduceMul, Nat.reduceSub, Nat.reduceLeDiff, Nat.lt_irrefl, Nat.reduceLT, Nat.reduceEqDiff, Nat.reduceBEq, Int.reduceLE, Int.reduceLT, Int.reduceToNat, w64, eq_self] <;> rfl) ?_)
  all_goals exact ⟨rfl, rfl⟩
set_option maxHeartbeats 4000000 in
theorem R8Keys_c (lv : LV) (xs : List Int) (n : Nat) (H : Hp) (h : RdL H lv (xs.map (LV.int .u8))) (hb : byB xs) (hl : xs.length ≤ 9223372036854775807) (hn : n ≤ 1000) :
    FunH Try.prog 5 [lv, .int .i64 (n : Nat)] H fun r H' => r = .sl H.length 0 0 n none ∧ H' = H ++ [⟨0, false, 2, 1, (rkL xs n).map (LV.int .i64)⟩] := by
  have hne : ∀ v off n cap, lv ≠ .sl H.length v off n cap := fun v off n cap e => by
    have := h.bnd; rw [e] at this
    exact absurd this (Nat.lt_irrefl _)
  have e0 : srN xs 0 = 0 := rfl
  (refine FunH_body tyOk Try.func5 rfl (by kernel_rfl) Try.ntmps5 (fun hcl hbd => ?_); simp only [List.length_cons, List.length_nil, Nat.reduceAdd, Nat.reduceSub, List.replicate, List.cons_append, List.nil_append])
  repeat' (first
 | ((with_reducible refine hK _ _ ?_); clear hK K)
 | ((first | (with_reducible show AOp _ _ _ _ _ _ _)); simp (disch := first | ((with_reducible show liveO _ _ _ = true); first | assumption | (exact liveO_setS (by assumption)) | (exact PtL.live (by assumption)) | (exact PtL.liveA (by assumption) _) | (simp only [go_sem]; done)) | omega | assumption | rfl | (simp only [go_sem]; first | done | omega)) only [go_sem, reduceIte, reduceCtorEq, Nat.reduceAdd, Nat.reduceMul, Nat.reduceSub, Nat.reduceLeDiff, Nat.lt_irrefl, Nat.reduceLT, Nat.reduceEqDiff, Nat.reduceBEq, Int.reduceLE, Int.reduceLT, Int.reduceToNat, w64, eq_self])
 | (with_reducible refine AW_seq (fun K hK => ?_))
 | (with_reducible refine AW_region tyOk ?_)
 | (with_reducible refine AOps_cons (fun K hK => ?_))
 | ((with_reducible refine AOps_nil ?_); try simp only [thenA, blockA, if_true, if_false, reduceIte, Nat.reduceEqDiff, reduceCtorEq])
 | (with_reducible refine AW_block ?_)
 | ((first | (with_reducible refine AW_ret ?_) | (with_reducible refine AW_skip ?_) | (with_reducible refine AW_exit ?_)); try simp only [thenA, blockA, if_true, if_false, reduceIte, Nat.reduceEqDiff, reduceCtorEq])
 | ((with_reducible show AW _ _ (.cond _ _ _) _ _ _); refine AW_cond rfl (fun hg => ?_) (fun hg => ?_) <;> first | (exfalso; simp only [reduceCtorEq] at hg; done) | ((try simp only [Bool.not_eq_true', Bool.not_eq_false', decide_eq_true_eq, decide_eq_false_iff_not] at hg); try (exfalso; omega)))
 | ((with_reducible show _ ∧ _); refine And.intro (fun hg => ?_) (fun hg => ?_) <;> (try simp only [Bool.not_eq_true', Bool.not_eq_false'] at hg) <;> simp only [hg] <;> (try simp only [decide_eq_true_eq, decide_eq_false_iff_not] at hg) <;> (try (exfalso; omega)))
 | ((with_reducible apply FunH_intro); (first | ((with_reducible show FunH _ 17 _ _ _); exact l00From_c lv xs _ h)))
 | (clear hK K)
    | fail)
  refine AW_loopV [1, 6, 7, 11, 12, 13, 14, 15, 16, 17, 18, 19, 20, 21, 22, 23, 24] (fun p : Nat × Hp => [(1, .int .i64 ((n : Int) - (p.1 : Nat))), (6, .sl (H.length + 1) p.1 0 p.1 none)]) (fun p => H ++ (⟨0, false, 62, 3, [lv, .int .i64 ((rkP xs p.1 : Nat) : Int), .int .u64 (srN xs (rkP xs p.1))]⟩ :: ⟨p.1, false, 2, 1, (rkL xs p.1).map (LV.int .i64)⟩ :: p.2)) (fun p => p.1 ≤ n) (fun p => n - p.1) (0, []) (Nat.zero_le _) ?_ rfl ?_
  · simp only [junkAll, setAll, List.foldl_cons, List.foldl_nil, List.set_cons_succ, List.set_cons_zero, JL, true_or, or_true, and_true, true_and, reduceCtorEq, false_or, or_false, LV.int.injEq, LV.bool.injEq, LV.flt.injEq, LV.sl.injEq, LV.ptr.injEq, eq_self, Int.natCast_add, Int.natCast_one, Int.natCast_zero, Int.ofNat_zero]; omega
  intro ⟨k, G⟩ hk K hK
  simp only at hk
  simp only [junkAll, setAll, List.foldl_cons, List.foldl_nil, List.set_cons_succ, List.set_cons_zero]
  have hdl : (rkL xs k).length = k := rkL_len xs k
  by_cases hkn : k < n
  · obtain ⟨a, ha⟩ : ∃ a, rkP xs k = a := ⟨_, rfl⟩
    have hab := rkP_le xs k
    rw [ha] at hab ⊢
    have hrd := fun (K : Hp) => h.app K
    have c1 := fun K => pick_c H.length 0 62 lv xs a (srN xs a) 30 (H ++ (⟨0, false, 62, 3, [lv, .int .i64 ((a : Nat) : Int), .int .u64 (srN xs a)]⟩ :: K)) ((hp_get0 _ _).trans rfl) (h.app _) hb hl (by omega) (by omega)
    have c2 := fun K => one_c H.length 0 62 lv xs (a + 1) (srN xs (a + 1)) 3 (H ++ (⟨0, false, 62, 3, [lv, .int .i64 ((a + 1 : Nat) : Int), .int .u64 (srN xs (a + 1))]⟩ :: K)) ((hp_get0 _ _).trans rfl) (h.app _) hb hl (by omega) (by omega)
    have c3 := fun K => pick2_c H.length 0 62 lv xs (a + 2) 4294967296 (H ++ (⟨0, false, 62, 3, [lv, .int .i64 ((a + 2 : Nat) : Int), .int .u64 (srN xs (a + 2))]⟩ :: K)) ((hp_get0 _ _).trans rfl) (h.app _) hne hb hl (by omega) (by omega)
    have s1 : srS (srN xs a) (srB xs a) = srN xs (a + 1) := rfl
    have s2 : srS (srN xs (a + 1)) (srB xs (a + 1)) = srN xs (a + 2) := rfl
    have v1 : srO xs a (srN xs a) = srA xs a := rfl
    have v2 : srO xs (a + 1) (srN xs (a + 1)) = srA xs (a + 1) := rfl
    simp only [hp_set0, List.set_cons_zero, s1, s2, v1, v2] at c1 c2 c3
    have hpos : (0 : Int) < (n : Int) - (k : Nat) := by omega
    have hdm : ((rkL xs k).map (LV.int .i64)).length = k := by rw [List.length_map, hdl]
    have hdc : ((rkL xs k).map (LV.int .i64)).all LV.isCell = true := by rw [List.all_eq_true]; intro x hx; obtain ⟨y, _, rfl⟩ := List.mem_map.1 hx; rfl
    cases h3 : (srA xs (a + 1)).tmod 3 == 0
    · have h3' : ¬ (srA xs (a + 1)).tmod 3 = 0 := by simpa using h3
      have hx : (srA xs a).tmod 30 = rkX xs k := by unfold rkX; rw [ha, if_neg h3']
      have hp : rkP xs (k + 1) = a + 2 := by show rkP xs k + _ = _; rw [ha, if_neg h3']
      rw [h3] at c2
      rw [hx] at c1
      repeat' (first
 | ((with_reducible refine hK _ _ ?_); clear hK K)
 | ((first | (with_reducible show AOp _ _ _ _ _ _ _)); simp (disch := first | ((with_reducible show liveO _ _ _ = true); first | assumption | (exact liveO_setS (by assumption)) | (exact PtL.live (by assumption)) | (exact PtL.liveA (by assumption) _) | (simp only [go_sem]; done)) | omega | assumption | rfl | (simp only [go_sem]; first | done | omega)) only [go_sem, reduceIte, reduceCtorEq, Nat.reduceAdd, Nat.reduceMul, Nat.reduceSub, Nat.reduceLeDiff, Nat.lt_irrefl, Nat.reduceLT, Nat.reduceEqDiff, Nat.reduceBEq, Int.reduceLE, Int.reduceLT, Int.reduceToNat, w64, eq_self, hpos, hdl, hdm, hdc])
 | (with_reducible refine AW_seq (fun K hK => ?_))
 | (with_reducible refine AW_region tyOk ?_)
 | (with_reducible refine AOps_cons (fun K hK => ?_))
 | ((with_reducible refine AOps_nil ?_); try simp only [thenA, blockA, if_true, if_false, reduceIte, Nat.reduceEqDiff, reduceCtorEq])
 | (with_reducible refine AW_block ?_)
 | ((first | (with_reducible refine AW_ret ?_) | (with_reducible refine AW_skip ?_) | (with_reducible refine AW_exit ?_)); try simp only [thenA, blockA, if_true, if_false, reduceIte, Nat.reduceEqDiff, reduceCtorEq])
 | ((with_reducible show AW _ _ (.cond _ _ _) _ _ _); refine AW_cond rfl (fun hg => ?_) (fun hg => ?_) <;> first | (exfalso; simp only [reduceCtorEq] at hg; done) | ((try simp only [Bool.not_eq_true', Bool.not_eq_false', decide_eq_true_eq, decide_eq_false_iff_not] at hg); try (exfalso; omega)))
 | ((with_reducible show _ ∧ _); refine And.intro (fun hg => ?_) (fun hg => ?_) <;> (try simp only [Bool.not_eq_true', Bool.not_eq_false'] at hg) <;> simp only [hg] <;> (try simp only [decide_eq_true_eq, decide_eq_false_iff_not] at hg) <;> (try (exfalso; omega)))
 | ((with_reducible apply FunH_intro); (first | ((with_reducible show FunH _ 18 _ _ _); exact c1 _) | ((with_reducible show FunH _ 19 _ _ _); exact c2 _)))
 | (clear hK K)
        | fail)
      refine hK _ _ (k + 1, ?G1) (by simp only; omega) (by simp only; omega) ?_ ?h1
      case h1 => (simp only [hp, rkL_succ, List.map_append, List.map_cons, List.map_nil]; rfl)
      · simp only [junkAll, setAll, List.foldl_cons, List.foldl_nil, List.set_cons_succ, List.set_cons_zero, JL, true_or, or_true, and_true, true_and, reduceCtorEq, false_or, or_false, LV.int.injEq, LV.bool.injEq, LV.flt.injEq, LV.sl.injEq, LV.ptr.injEq, eq_self, Int.natCast_add, Int.natCast_one, Int.natCast_zero, Int.ofNat_zero]; omega
    · have h3' : (srA xs (a + 1)).tmod 3 = 0 := by simpa using h3
      have hx : pk2 xs (a + 2) 4294967296 = rkX xs k := by unfold rkX; rw [ha, if_pos h3']
      have hp : rkP xs (k + 1) = a + 4 := by show rkP xs k + _ = _; rw [ha, if_pos h3']
      rw [h3] at c2
      rw [hx] at c3
      repeat' (first
 | ((with_reducible refine hK _ _ ?_); clear hK K)
 | ((first | (with_reducible show AOp _ _ _ _ _ _ _)); simp (disch := first | ((with_reducible show liveO _ _ _ = true); first | assumption | (exact liveO_setS (by assumption)) | (exact PtL.live (by assumption)) | (exact PtL.liveA (by assumption) _) | (simp only [go_sem]; done)) | omega | assumption | rfl | (simp only [go_sem]; first | done | omega)) only [go_sem, reduceIte, reduceCtorEq, Nat.reduceAdd, Nat.reduceMul, Nat.reduceSub, Nat.reduceLeDiff, Nat.lt_irrefl, Nat.reduceLT, Nat.reduceEqDiff, Nat.reduceBEq, Int.reduceLE, Int.reduceLT, Int.reduceToNat, w64, eq_self, hpos, hdl, hdm, hdc])
 | (with_reducible refine AW_seq (fun K hK => ?_))
 | (with_reducible refine AW_region tyOk ?_)
 | (with_reducible refine AOps_cons (fun K hK => ?_))
 | ((with_reducible refine AOps_nil ?_); try simp only [thenA, blockA, if_true, if_false, reduceIte, Nat.reduceEqDiff, reduceCtorEq])
 | (with_reducible refine AW_block ?_)
 | ((first | (with_reducible refine AW_ret ?_) | (with_reducible refine AW_skip ?_) | (with_reducible refine AW_exit ?_)); try simp only [thenA, blockA, if_true, if_false, reduceIte, Nat.reduceEqDiff, reduceCtorEq])
 | ((with_reducible show AW _ _ (.cond _ _ _) _ _ _); refine AW_cond rfl (fun hg => ?_) (fun hg => ?_) <;> first | (exfalso; simp only [reduceCtorEq] at hg; done) | ((try simp only [Bool.not_eq_true', Bool.not_eq_false', decide_eq_true_eq, decide_eq_false_iff_not] at hg); try (exfalso; omega)))
 | ((with_reducible show _ ∧ _); refine And.intro (fun hg => ?_) (fun hg => ?_) <;> (try simp only [Bool.not_eq_true', Bool.not_eq_false'] at hg) <;> simp only [hg] <;> (try simp only [decide_eq_true_eq, decide_eq_false_iff_not] at hg) <;> (try (exfalso; omega)))
 | ((with_reducible apply FunH_intro); (first | ((with_reducible show FunH _ 18 _ _ _); exact c1 _) | ((with_reducible show FunH _ 19 _ _ _); exact c2 _) | ((with_reducible show FunH _ 18 _ _ _); exact c3 _)))
 | (clear hK K)
        | fail)
      refine hK _ _ (k + 1, ?G2) (by simp only; omega) (by simp only; omega) ?_ ?h2
      case h2 => (simp only [hp, rkL_succ, List.map_append, List.map_cons, List.map_nil]; rfl)
      · simp only [junkAll, setAll, List.foldl_cons, List.foldl_nil, List.set_cons_succ, List.set_cons_zero, JL, true_or, or_true, and_true, true_and, reduceCtorEq, false_or, or_false, LV.int.injEq, LV.bool.injEq, LV.flt.injEq, LV.sl.injEq, LV.ptr.injEq, eq_self, Int.natCast_add, Int.natCast_one, Int.natCast_zero, Int.ofNat_zero]; omega
  · have e : n = k := by omega
    subst e
    repeat' (first
 | ((with_reducible refine hK _ _ ?_); clear hK K)
 | ((first | (with_reducible show AOp _ _ _ _ _ _ _)); simp (disch := first | ((with_reducible show liveO _ _ _ = true); first | assumption | (exact liveO_setS (by assumption)) | (exact PtL.live (by assumption)) | (exact PtL.liveA (by assumption) _) | (simp only [go_sem]; done)) | omega | assumption | rfl | (simp only [go_sem]; first | done | omega)) only [go_sem, reduceIte, reduceCtorEq, Nat.reduceAdd, Nat.reduceMul, Nat.reduceSub, Nat.reduceLeDiff, Nat.lt_irrefl, Nat.reduceLT, Nat.reduceEqDiff, Nat.reduceBEq, Int.reduceLE, Int.reduceLT, Int.reduceToNat, w64, eq_self])
 | (with_reducible refine AW_seq (fun K hK => ?_))
 | (with_reducible refine AW_region tyOk ?_)
 | (with_reducible refine AOps_cons (fun K hK => ?_))
 | ((with_reducible refine AOps_nil ?_); try simp only [thenA, blockA, if_true, if_false, reduceIte, Nat.reduceEqDiff, reduceCtorEq])
 | (with_reducible refine AW_block ?_)
 | ((first | (with_reducible refine AW_ret ?_) | (with_reducible refine AW_skip ?_) | (with_reducible refine AW_exit ?_)); try simp only [thenA, blockA, if_true, if_false, reduceIte, Nat.reduceEqDiff, reduceCtorEq])
 | ((with_reducible show AW _ _ (.cond _ _ _) _ _ _); refine AW_cond rfl (fun hg => ?_) (fun hg => ?_) <;> first | (exfalso; simp only [reduceCtorEq] at hg; done) | ((try simp only [Bool.not_eq_true', Bool.not_eq_false', decide_eq_true_eq, decide_eq_false_iff_not] at hg); try (exfalso; omega)))
 | ((with_reducible show _ ∧ _); refine And.intro (fun hg => ?_) (fun hg => ?_) <;> (try simp only [Bool.not_eq_true', Bool.not_eq_false'] at hg) <;> simp only [hg] <;> (try simp only [decide_eq_true_eq, decide_eq_false_iff_not] at hg) <;> (try (exfalso; omega)))
 | (clear hK K)
      | fail)
    refine EndA_rows [some 1] hcl (by first | exact Or.inr rfl | exact Or.inl rfl) (by simp only [Try.results5, resA, aresL, go_sem, reduceIte, reduceCtorEq, Nat.reduceAdd, Nat.reduceMul, Nat.reduceSub, Nat.reduceLeDiff, Nat.lt_irrefl, Nat.reduceLT, Nat.reduceEqDiff, Nat.reduceBEq, Int.reduceLE, Int.reduceLT, Int.reduceToNat, w64, eq_self] <;> rfl) (by decide) ?_ ?_ ⟨rfl, rfl⟩
    rotate_left
    · repeat' (first | exact trivial | apply TdT.tup | apply TdT.one | apply TdL.agg | apply TdL.cell | exact TdB.old _ trivial rfl | exact TdB.own 0 1 _ _ _ _ rfl _ rfl rfl | exact TdB.junk _ | exact TdB.old _ (by assumption) (by assumption) | refine And.intro ?_ ?_)
    all_goals (repeat' (first | (with_reducible exact RowOk.none) | ((with_reducible apply RowOk.emp); exact rfl) | ((with_reducible apply RowOk.eq); (exact rfl); rotate_left; (first | (with_reducible exact scal_int _ _) | (with_reducible exact scal_flt _ _) | (with_reducible exact scal_bool _) | (intro c hc; cases hc; done) | (simp [LV.isCell, bnd]; done))) | exact trivial | refine And.intro ?_ ?_))
    all_goals (try rfl)
end Go.Proofs.Ytpbafacehmjdmaa
