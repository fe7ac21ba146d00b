/- Stable sorting: insertion, in the abstract machine. -/
import Derived.Test.YteejnmgjjefbiaaSo
namespace Go.Proofs.Yteejnmgjjefbiaa
open Go.RowKit
set_option linter.unusedSimpArgs false
set_option linter.unusedVariables false
set_option linter.unusedSectionVars false
set_option maxRecDepth 100000

set_option maxHeartbeats 2000000 in
theorem insSort_float32_c {α : Type} [Inhabited α] {F : α → LV} {cf : α → α → Int} {key : α → Int} {g : FuncId} {caps : List LV} (hc : CmpOk F cf key g caps) (id ver el n a b : Nat) (D : List α) (H : Hp) (h : H[id]? = some ⟨ver, false, el, 1, D.map F⟩) (hn : D.length = n) (h1 : a ≤ b) (h2 : b ≤ n) (hm : n ≤ 1048576) :
    FunH Try.prog 55 [.sl id ver 0 n none, .int .i64 (a : Nat), .int .i64 (b : Nat), .fn g caps] H fun r H' => r = .tup [] ∧ H' = H.set id ⟨ver, false, el, 1, (upd key D a b).map F⟩ := by
  have hid := lt_of_get h
  (refine FunH_body tyOk Try.func55 rfl (by kernel_rfl) Try.ntmps55 (fun hcl hbd => ?_); simp only [List.length_cons, List.length_nil, Nat.reduceAdd, Nat.reduceSub, List.replicate, List.cons_append, List.nil_append])
  repeat' (first
    | ((with_reducible refine hK _ _ ?_); clear hK K)
    | ((first | (with_reducible show AOp _ _ _ _ _ _ _)); simp (disch := first | ((with_reducible show liveO _ _ _ = true); first | assumption | (exact liveO_setS (by assumption)) | (exact PtL.live (by assumption)) | (exact PtL.liveA (by assumption) _) | (simp only [go_sem]; done)) | omega | assumption | rfl | (simp only [go_sem]; first | done | omega)) only [go_sem, reduceIte, reduceCtorEq, Nat.reduceAdd, Nat.reduceMul, Nat.reduceSub, Nat.reduceLeDiff, Nat.lt_irrefl, Nat.reduceLT, Nat.reduceEqDiff, Nat.reduceBEq, Int.reduceLE, Int.reduceLT, Int.reduceToNat, w64, eq_self])
    | (with_reducible refine AW_seq (fun K hK => ?_))
    | (with_reducible refine AW_region tyOk ?_)
    | (with_reducible refine AOps_cons (fun K hK => ?_))
    | ((with_reducible refine AOps_nil ?_); try simp only [thenA, blockA, if_true, if_false, reduceIte, Nat.reduceEqDiff, reduceCtorEq])
    | (with_reducible refine AW_block ?_)
    | ((first | (with_reducible refine AW_ret ?_) | (with_reducible refine AW_skip ?_) | (with_reducible refine AW_exit ?_)); try simp only [thenA, blockA, if_true, if_false, reduceIte, Nat.reduceEqDiff, reduceCtorEq])
    | ((with_reducible show AW _ _ (.cond _ _ _) _ _ _); refine AW_cond rfl (fun hg => ?_) (fun hg => ?_) <;> first | (exfalso; simp only [reduceCtorEq] at hg; done) | ((try simp only [Bool.not_eq_true', Bool.not_eq_false', decide_eq_true_eq, decide_eq_false_iff_not] at hg); try (exfalso; omega)))
    | ((with_reducible show _ ∧ _); refine And.intro (fun hg => ?_) (fun hg => ?_) <;> (try simp only [Bool.not_eq_true', Bool.not_eq_false'] at hg) <;> simp only [hg] <;> (try simp only [decide_eq_true_eq, decide_eq_false_iff_not] at hg) <;> (try (exfalso; omega)))
    | (clear hK K)
    | fail)
  refine AW_loopV [8, 9, 12, 13, 14, 15, 16, 17, 18, 19, 20, 21, 22, 23, 24, 25, 26, 27, 28, 29, 30, 31, 32, 33, 34, 35, 36, 37, 38, 39, 40, 41, 42, 43, 44, 45, 46, 47, 48, 49, 50, 51, 52] (fun i : Nat => [(8, .int .i64 (a + 1 + i : Nat))]) (fun i => H.set id ⟨ver, false, el, 1, (upd key D a (a + 1 + i)).map F⟩) (fun i => a + 1 + i ≤ max b (a + 1)) (fun i => b - (a + 1 + i)) 0 (by omega) ?_ ?_ ?_
  · simp only [junkAll, setAll, List.foldl_cons, List.foldl_nil, List.set_cons_succ, List.set_cons_zero, JL, true_or, or_true, and_true, true_and, reduceCtorEq, false_or, or_false, LV.int.injEq, LV.bool.injEq, LV.flt.injEq, LV.sl.injEq, LV.ptr.injEq, eq_self, Int.natCast_add, Int.natCast_one, Int.natCast_zero, Int.ofNat_zero]; rfl
  · rw [Nat.add_zero, upd_one]; exact (set_self h).symm
  · intro i hi K hK
    obtain ⟨i0, hi0⟩ : ∃ i0, a + 1 + i = i0 := ⟨_, rfl⟩
    simp only [hi0] at hi ⊢
    simp only [junkAll, setAll, List.foldl_cons, List.foldl_nil, List.set_cons_succ, List.set_cons_zero]
    by_cases hib : i0 < b
    · obtain ⟨S, hS⟩ : ∃ S, srt key (rg D a i0) = S := ⟨_, rfl⟩
      have hSl : S.length = i0 - a := by rw [← hS, srt_len, rg_len (by omega)]
      have hst := ins_start key D (a := a) (i := i0) (by omega) (by omega)
      have hend := fun t => ins_end (key := key) D (a := a) (i := i0) (t := t) (by omega) (by omega)
      have hSa : Asc key S := by rw [← hS]; exact srt_asc _
      rw [hS] at hst hend
      obtain ⟨P, hP⟩ : ∃ P, D.take a = P := ⟨_, rfl⟩
      obtain ⟨R, hR⟩ : ∃ R, D.drop (i0 + 1) = R := ⟨_, rfl⟩
      obtain ⟨x, hx⟩ : ∃ x, ix D i0 = x := ⟨_, rfl⟩
      have hPl : P.length = a := by rw [← hP]; simp; omega
      have hRl : R.length = n - (i0 + 1) := by rw [← hR]; simp; omega
      rw [hP, hR, hx] at hst hend
      repeat' (first
        | ((with_reducible refine hK _ _ ?_); clear hK K)
        | ((first | (with_reducible show AOp _ _ _ _ _ _ _)); simp (disch := first | ((with_reducible show liveO _ _ _ = true); first | assumption | (exact liveO_setS (by assumption)) | (exact PtL.live (by assumption)) | (exact PtL.liveA (by assumption) _) | (simp only [go_sem]; done)) | omega | assumption | rfl | (simp only [go_sem]; first | done | omega)) only [go_sem, reduceIte, reduceCtorEq, Nat.reduceAdd, Nat.reduceMul, Nat.reduceSub, Nat.reduceLeDiff, Nat.lt_irrefl, Nat.reduceLT, Nat.reduceEqDiff, Nat.reduceBEq, Int.reduceLE, Int.reduceLT, Int.reduceToNat, w64, eq_self])
        | (with_reducible refine AW_seq (fun K hK => ?_))
        | (with_reducible refine AW_region tyOk ?_)
        | (with_reducible refine AOps_cons (fun K hK => ?_))
        | ((with_reducible refine AOps_nil ?_); try simp only [thenA, blockA, if_true, if_false, reduceIte, Nat.reduceEqDiff, reduceCtorEq])
        | (with_reducible refine AW_block ?_)
        | ((first | (with_reducible refine AW_ret ?_) | (with_reducible refine AW_skip ?_) | (with_reducible refine AW_exit ?_)); try simp only [thenA, blockA, if_true, if_false, reduceIte, Nat.reduceEqDiff, reduceCtorEq])
        | ((with_reducible show AW _ _ (.cond _ _ _) _ _ _); refine AW_cond rfl (fun hg => ?_) (fun hg => ?_) <;> first | (exfalso; simp only [reduceCtorEq] at hg; done) | ((try simp only [Bool.not_eq_true', Bool.not_eq_false', decide_eq_true_eq, decide_eq_false_iff_not] at hg); try (exfalso; omega)))
        | ((with_reducible show _ ∧ _); refine And.intro (fun hg => ?_) (fun hg => ?_) <;> (try simp only [Bool.not_eq_true', Bool.not_eq_false'] at hg) <;> simp only [hg] <;> (try simp only [decide_eq_true_eq, decide_eq_false_iff_not] at hg) <;> (try (exfalso; omega)))
        | (clear hK K)
        | fail)
      refine AW_loopV [9, 18, 19, 20, 21, 22, 23, 24, 25, 26, 27, 28, 29, 30, 31, 32, 33, 34, 35, 36, 37, 38, 39, 40, 41, 42, 43, 44, 45, 46, 47, 48, 49, 50, 51, 52] (fun t : Nat => [(9, .int .i64 (a + t : Nat))]) (fun t => H.set id ⟨ver, false, el, 1, (mv P S R x t).map F⟩) (fun t => t ≤ S.length ∧ ∀ s ∈ S.drop t, key x < key s) (fun t => t) S.length ⟨Nat.le_refl _, by simp⟩ ?_ ?_ ?_
      · simp only [junkAll, setAll, List.foldl_cons, List.foldl_nil, List.set_cons_succ, List.set_cons_zero, JL, true_or, or_true, and_true, true_and, reduceCtorEq, false_or, or_false, LV.int.injEq, LV.bool.injEq, LV.flt.injEq, LV.sl.injEq, LV.ptr.injEq, eq_self, Int.natCast_add, Int.natCast_one, Int.natCast_zero, Int.ofNat_zero]; omega
      · rw [hst]
      · intro t ⟨ht, hq⟩ K2 hK2
        obtain ⟨E, hE⟩ : ∃ E, mv P S R x t = E := ⟨_, rfl⟩
        have hEl : E.length = n := by rw [← hE, mv_len _ _ _ _ _ ht]; omega
        have hEx : ix E (a + t) = x := by rw [← hE, mv_at _ _ _ _ _ ht (by omega)]
        rw [hE]
        obtain ⟨j, hj⟩ : ∃ j, a + t = j := ⟨_, rfl⟩
        rw [hj] at hEx
        simp only [hj]
        simp only [junkAll, setAll, List.foldl_cons, List.foldl_nil, List.set_cons_succ, List.set_cons_zero]
        cases t with
        | zero =>
          have ej : ¬ j > a := by omega
          repeat' (first
            | ((with_reducible refine hK _ _ ?_); clear hK K)
            | ((with_reducible refine hK _ ?_); clear hK K; try simp only [])
            | ((first | (with_reducible show AOp _ _ _ _ _ _ _) | (with_reducible show AQOp _ _ _ _ _ _ _)); simp (disch := first | ((with_reducible show liveO _ _ _ = true); first | assumption | (exact liveO_setS (by assumption)) | (exact PtL.live (by assumption)) | (exact PtL.liveA (by assumption) _) | (simp only [go_sem]; done)) | omega | assumption | rfl | (simp only [go_sem]; first | done | omega)) only [go_sem, reduceIte, reduceCtorEq, Nat.reduceAdd, Nat.reduceMul, Nat.reduceSub, Nat.reduceLeDiff, Nat.lt_irrefl, Nat.reduceLT, Nat.reduceEqDiff, Nat.reduceBEq, Int.reduceLE, Int.reduceLT, Int.reduceToNat, w64, eq_self])
            | (with_reducible refine AW_seq (fun K hK => ?_))
            | (with_reducible refine AW_region tyOk ?_)
            | ((with_reducible refine AW_quiet (id := 4) tyOk ?_ ?_ ?_); (kernel_rfl); (kernel_rfl))
            | (with_reducible refine AOps_cons (fun K hK => ?_))
            | (with_reducible refine AQOps_cons (fun K hK => ?_))
            | ((with_reducible refine AQOps_nil ?_); try simp only [thenA, blockA, if_true, if_false, reduceIte, Nat.reduceEqDiff, reduceCtorEq])
            | ((with_reducible refine AOps_nil ?_); try simp only [thenA, blockA, if_true, if_false, reduceIte, Nat.reduceEqDiff, reduceCtorEq])
            | (with_reducible refine AW_block ?_)
            | ((first | (with_reducible refine AW_ret ?_) | (with_reducible refine AW_skip ?_) | (with_reducible refine AW_exit ?_)); try simp only [thenA, blockA, if_true, if_false, reduceIte, Nat.reduceEqDiff, reduceCtorEq])
            | ((with_reducible show AW _ _ (.cond _ _ _) _ _ _); refine AW_cond rfl (fun hg => ?_) (fun hg => ?_) <;> first | (exfalso; simp only [reduceCtorEq] at hg; done) | ((try simp only [Bool.not_eq_true', Bool.not_eq_false', decide_eq_true_eq, decide_eq_false_iff_not] at hg); try (exfalso; omega)))
            | ((with_reducible show _ ∧ _); refine And.intro (fun hg => ?_) (fun hg => ?_) <;> (try simp only [Bool.not_eq_true', Bool.not_eq_false'] at hg) <;> simp only [hg] <;> (try simp only [decide_eq_true_eq, decide_eq_false_iff_not] at hg) <;> (try (exfalso; omega)))
            | (clear hK K)
            | fail)
          refine hK _ _ (i + 1) (by omega) (by omega) ?_ ?_
          · simp only [junkAll, setAll, List.foldl_cons, List.foldl_nil, List.set_cons_succ, List.set_cons_zero, JL, true_or, or_true, and_true, true_and, reduceCtorEq, false_or, or_false, LV.int.injEq, LV.bool.injEq, LV.flt.injEq, LV.sl.injEq, LV.ptr.injEq, eq_self, Int.natCast_add, Int.natCast_one, Int.natCast_zero, Int.ofNat_zero]; omega
          · rw [← hE, hend 0 (by simp) (by simpa using hq), show a + 1 + (i + 1) = i0 + 1 by omega]
        | succ t =>
          have hEb : ix E (j - 1) = ix S t := by rw [← hE, mv_below _ _ _ _ _ (by omega) (by omega)]
          have hEs : swp E j (j - 1) = mv P S R x t := by rw [← hE, mv_down _ _ _ _ _ (by omega) (by omega) (by omega)]
          have ej : ((j : Int) - 1).toNat = j - 1 := by omega
          by_cases hcf : cf (ix E j) (ix E (j - 1)) < 0
          · have hk := (hc.neg _ _).1 hcf
            rw [hEx, hEb] at hk
            repeat' (first
              | ((with_reducible refine hK _ _ ?_); clear hK K)
              | ((with_reducible refine hK _ ?_); clear hK K; try simp only [])
              | ((first | (with_reducible show AOp _ _ _ _ _ _ _) | (with_reducible show AQOp _ _ _ _ _ _ _)); simp (disch := first | ((with_reducible show liveO _ _ _ = true); first | assumption | (exact liveO_setS (by assumption)) | (exact PtL.live (by assumption)) | (exact PtL.liveA (by assumption) _) | (simp only [go_sem]; done)) | omega | assumption | rfl | (simp only [go_sem]; first | done | omega)) only [go_sem, reduceIte, reduceCtorEq, Nat.reduceAdd, Nat.reduceMul, Nat.reduceSub, Nat.reduceLeDiff, Nat.lt_irrefl, Nat.reduceLT, Nat.reduceEqDiff, Nat.reduceBEq, Int.reduceLE, Int.reduceLT, Int.reduceToNat, w64, eq_self, mget, mset, ej, hEl, hc.cell, hc.cells])
              | (with_reducible refine AW_seq (fun K hK => ?_))
              | (with_reducible refine AW_region tyOk ?_)
              | ((with_reducible refine AW_quiet (id := 4) tyOk ?_ ?_ ?_); (kernel_rfl); (kernel_rfl))
              | ((with_reducible apply AW_tree (id := 6) tyOk 18); (kernel_rfl); (exact rfl))
              | ((with_reducible refine AAny_leaf (by decide +kernel) ?_); exact ⟨rfl, rfl⟩)
              | (with_reducible refine AAny_pure 0 rfl rfl (by decide +kernel) (by decide +kernel) (fun K hK => ?_))
              | (with_reducible refine AAny_pure 1 rfl rfl (by decide +kernel) (by decide +kernel) (fun K hK => ?_))
              | (with_reducible refine AAny_pure 2 rfl rfl (by decide +kernel) (by decide +kernel) (fun K hK => ?_))
              | (with_reducible refine AAny_pure 3 rfl rfl (by decide +kernel) (by decide +kernel) (fun K hK => ?_))
              | (with_reducible refine AAny_pure 4 rfl rfl (by decide +kernel) (by decide +kernel) (fun K hK => ?_))
              | (with_reducible refine AAny_pure 5 rfl rfl (by decide +kernel) (by decide +kernel) (fun K hK => ?_))
              | (with_reducible refine AAny_pure 6 rfl rfl (by decide +kernel) (by decide +kernel) (fun K hK => ?_))
              | (with_reducible refine AAny_pure 7 rfl rfl (by decide +kernel) (by decide +kernel) (fun K hK => ?_))
              | (with_reducible refine AAny_pure 10 rfl rfl (by decide +kernel) (by decide +kernel) (fun K hK => ?_))
              | (with_reducible refine AAny_pure 11 rfl rfl (by decide +kernel) (by decide +kernel) (fun K hK => ?_))
              | (with_reducible refine AAny_step 8 [12] (by decide +kernel) ?_)
              | (with_reducible refine AAny_step 8 [13] (by decide +kernel) ?_)
              | (with_reducible refine AAny_step 9 [12] (by decide +kernel) ?_)
              | (with_reducible refine AAny_step 9 [13] (by decide +kernel) ?_)
              | (with_reducible refine AAny_step 8 [] (by decide +kernel) ?_)
              | (with_reducible refine AAny_step 9 [] (by decide +kernel) ?_)
              | (with_reducible refine AAny_step 12 [] (by decide +kernel) ?_)
              | (with_reducible refine AAny_step 13 [] (by decide +kernel) ?_)
              | (with_reducible refine AAny_step 14 [] (by decide +kernel) ?_)
              | (with_reducible refine AAny_step 15 [] (by decide +kernel) ?_)
              | (with_reducible refine AAny_step 16 [] (by decide +kernel) ?_)
              | (with_reducible refine AAny_step 17 [] (by decide +kernel) ?_)
              | (with_reducible refine AAll_cons rfl (fun K hK => ?_) ?_)
              | (with_reducible exact AAll_nil)
              | ((with_reducible show thenA _ _ _ _ _); simp only [thenA, blockA, if_true, if_false, reduceIte])
              | ((with_reducible show blockA _ _ _ _ _); simp only [thenA, blockA, if_true, if_false, reduceIte, Nat.reduceEqDiff, reduceCtorEq])
              | (with_reducible refine AOps_cons (fun K hK => ?_))
              | (with_reducible refine AQOps_cons (fun K hK => ?_))
              | ((with_reducible refine AQOps_nil ?_); try simp only [thenA, blockA, if_true, if_false, reduceIte, Nat.reduceEqDiff, reduceCtorEq])
              | ((with_reducible refine AOps_nil ?_); try simp only [thenA, blockA, if_true, if_false, reduceIte, Nat.reduceEqDiff, reduceCtorEq])
              | (with_reducible refine AW_block ?_)
              | ((first | (with_reducible refine AW_ret ?_) | (with_reducible refine AW_skip ?_) | (with_reducible refine AW_exit ?_)); try simp only [thenA, blockA, if_true, if_false, reduceIte, Nat.reduceEqDiff, reduceCtorEq])
              | ((with_reducible show AW _ _ (.cond _ _ _) _ _ _); refine AW_cond rfl (fun hg => ?_) (fun hg => ?_) <;> first | (exfalso; simp only [reduceCtorEq] at hg; done) | ((try simp only [Bool.not_eq_true', Bool.not_eq_false', decide_eq_true_eq, decide_eq_false_iff_not] at hg); try (exfalso; omega)))
              | ((with_reducible show _ ∧ _); refine And.intro (fun hg => ?_) (fun hg => ?_) <;> (try simp only [Bool.not_eq_true', Bool.not_eq_false'] at hg) <;> simp only [hg] <;> (try simp only [decide_eq_true_eq, decide_eq_false_iff_not] at hg) <;> (try (exfalso; omega)))
              | ((first | (with_reducible apply FunH_intro) | (with_reducible apply AQ_intro)); (first | exact hc.call _ _ _))
              | (clear hK K)
              | fail)
            refine hK2 _ _ t ⟨by omega, ?_⟩ (by omega) ?_ ?_
            · intro s hs
              rw [drop_ix S t (by omega)] at hs
              rcases List.mem_cons.1 hs with rfl | hs
              · exact hk
              · exact hq s hs
            · simp only [junkAll, setAll, List.foldl_cons, List.foldl_nil, List.set_cons_succ, List.set_cons_zero, JL, true_or, or_true, and_true, true_and, reduceCtorEq, false_or, or_false, LV.int.injEq, LV.bool.injEq, LV.flt.injEq, LV.sl.injEq, LV.ptr.injEq, eq_self, Int.natCast_add, Int.natCast_one, Int.natCast_zero, Int.ofNat_zero]; omega
            · rw [← hEs, ← mset]
          · have hk : key (ix S t) ≤ key x := by
              have := mt (hc.neg _ _).2 hcf
              rw [hEx, hEb] at this; omega
            repeat' (first
              | ((with_reducible refine hK _ _ ?_); clear hK K)
              | ((with_reducible refine hK _ ?_); clear hK K; try simp only [])
              | ((first | (with_reducible show AOp _ _ _ _ _ _ _) | (with_reducible show AQOp _ _ _ _ _ _ _)); simp (disch := first | ((with_reducible show liveO _ _ _ = true); first | assumption | (exact liveO_setS (by assumption)) | (exact PtL.live (by assumption)) | (exact PtL.liveA (by assumption) _) | (simp only [go_sem]; done)) | omega | assumption | rfl | (simp only [go_sem]; first | done | omega)) only [go_sem, reduceIte, reduceCtorEq, Nat.reduceAdd, Nat.reduceMul, Nat.reduceSub, Nat.reduceLeDiff, Nat.lt_irrefl, Nat.reduceLT, Nat.reduceEqDiff, Nat.reduceBEq, Int.reduceLE, Int.reduceLT, Int.reduceToNat, w64, eq_self, mget, mset, ej, hEl, hc.cell, hc.cells])
              | (with_reducible refine AW_seq (fun K hK => ?_))
              | (with_reducible refine AW_region tyOk ?_)
              | ((with_reducible refine AW_quiet (id := 4) tyOk ?_ ?_ ?_); (kernel_rfl); (kernel_rfl))
              | ((with_reducible apply AW_tree (id := 6) tyOk 18); (kernel_rfl); (exact rfl))
              | ((with_reducible refine AAny_leaf (by decide +kernel) ?_); exact ⟨rfl, rfl⟩)
              | (with_reducible refine AAny_pure 0 rfl rfl (by decide +kernel) (by decide +kernel) (fun K hK => ?_))
              | (with_reducible refine AAny_pure 1 rfl rfl (by decide +kernel) (by decide +kernel) (fun K hK => ?_))
              | (with_reducible refine AAny_pure 2 rfl rfl (by decide +kernel) (by decide +kernel) (fun K hK => ?_))
              | (with_reducible refine AAny_pure 3 rfl rfl (by decide +kernel) (by decide +kernel) (fun K hK => ?_))
              | (with_reducible refine AAny_pure 4 rfl rfl (by decide +kernel) (by decide +kernel) (fun K hK => ?_))
              | (with_reducible refine AAny_pure 5 rfl rfl (by decide +kernel) (by decide +kernel) (fun K hK => ?_))
              | (with_reducible refine AAny_pure 6 rfl rfl (by decide +kernel) (by decide +kernel) (fun K hK => ?_))
              | (with_reducible refine AAny_pure 7 rfl rfl (by decide +kernel) (by decide +kernel) (fun K hK => ?_))
              | (with_reducible refine AAny_pure 10 rfl rfl (by decide +kernel) (by decide +kernel) (fun K hK => ?_))
              | (with_reducible refine AAny_pure 11 rfl rfl (by decide +kernel) (by decide +kernel) (fun K hK => ?_))
              | (with_reducible refine AAny_step 8 [12] (by decide +kernel) ?_)
              | (with_reducible refine AAny_step 8 [13] (by decide +kernel) ?_)
              | (with_reducible refine AAny_step 9 [12] (by decide +kernel) ?_)
              | (with_reducible refine AAny_step 9 [13] (by decide +kernel) ?_)
              | (with_reducible refine AAny_step 8 [] (by decide +kernel) ?_)
              | (with_reducible refine AAny_step 9 [] (by decide +kernel) ?_)
              | (with_reducible refine AAny_step 12 [] (by decide +kernel) ?_)
              | (with_reducible refine AAny_step 13 [] (by decide +kernel) ?_)
              | (with_reducible refine AAny_step 14 [] (by decide +kernel) ?_)
              | (with_reducible refine AAny_step 15 [] (by decide +kernel) ?_)
              | (with_reducible refine AAny_step 16 [] (by decide +kernel) ?_)
              | (with_reducible refine AAny_step 17 [] (by decide +kernel) ?_)
              | (with_reducible refine AAll_cons rfl (fun K hK => ?_) ?_)
              | (with_reducible exact AAll_nil)
              | ((with_reducible show thenA _ _ _ _ _); simp only [thenA, blockA, if_true, if_false, reduceIte])
              | ((with_reducible show blockA _ _ _ _ _); simp only [thenA, blockA, if_true, if_false, reduceIte, Nat.reduceEqDiff, reduceCtorEq])
              | (with_reducible refine AOps_cons (fun K hK => ?_))
              | (with_reducible refine AQOps_cons (fun K hK => ?_))
              | ((with_reducible refine AQOps_nil ?_); try simp only [thenA, blockA, if_true, if_false, reduceIte, Nat.reduceEqDiff, reduceCtorEq])
              | ((with_reducible refine AOps_nil ?_); try simp only [thenA, blockA, if_true, if_false, reduceIte, Nat.reduceEqDiff, reduceCtorEq])
              | (with_reducible refine AW_block ?_)
              | ((first | (with_reducible refine AW_ret ?_) | (with_reducible refine AW_skip ?_) | (with_reducible refine AW_exit ?_)); try simp only [thenA, blockA, if_true, if_false, reduceIte, Nat.reduceEqDiff, reduceCtorEq])
              | ((with_reducible show AW _ _ (.cond _ _ _) _ _ _); refine AW_cond rfl (fun hg => ?_) (fun hg => ?_) <;> first | (exfalso; simp only [reduceCtorEq] at hg; done) | ((try simp only [Bool.not_eq_true', Bool.not_eq_false', decide_eq_true_eq, decide_eq_false_iff_not] at hg); try (exfalso; omega)))
              | ((with_reducible show _ ∧ _); refine And.intro (fun hg => ?_) (fun hg => ?_) <;> (try simp only [Bool.not_eq_true', Bool.not_eq_false'] at hg) <;> simp only [hg] <;> (try simp only [decide_eq_true_eq, decide_eq_false_iff_not] at hg) <;> (try (exfalso; omega)))
              | ((first | (with_reducible apply FunH_intro) | (with_reducible apply AQ_intro)); (first | exact hc.call _ _ _))
              | (clear hK K)
              | fail)
            refine hK _ _ (i + 1) (by omega) (by omega) ?_ ?_
            · simp only [junkAll, setAll, List.foldl_cons, List.foldl_nil, List.set_cons_succ, List.set_cons_zero, JL, true_or, or_true, and_true, true_and, reduceCtorEq, false_or, or_false, LV.int.injEq, LV.bool.injEq, LV.flt.injEq, LV.sl.injEq, LV.ptr.injEq, eq_self, Int.natCast_add, Int.natCast_one, Int.natCast_zero, Int.ofNat_zero]; omega
            · rw [← hE, hend (t + 1) (fun s hs => ?_) hq, show a + 1 + (i + 1) = i0 + 1 by omega]
              obtain ⟨m, m1, m2, rfl⟩ := mem_take_ix hs
              exact Int.le_trans (asc_ix hSa (i := m) (j := t) (by omega) (by omega)) hk
    · repeat' (first
        | ((with_reducible refine hK _ _ ?_); clear hK K)
        | ((first | (with_reducible show AOp _ _ _ _ _ _ _)); simp (disch := first | ((with_reducible show liveO _ _ _ = true); first | assumption | (exact liveO_setS (by assumption)) | (exact PtL.live (by assumption)) | (exact PtL.liveA (by assumption) _) | (simp only [go_sem]; done)) | omega | assumption | rfl | (simp only [go_sem]; first | done | omega)) only [go_sem, reduceIte, reduceCtorEq, Nat.reduceAdd, Nat.reduceMul, Nat.reduceSub, Nat.reduceLeDiff, Nat.lt_irrefl, Nat.reduceLT, Nat.reduceEqDiff, Nat.reduceBEq, Int.reduceLE, Int.reduceLT, Int.reduceToNat, w64, eq_self])
        | (with_reducible refine AW_seq (fun K hK => ?_))
        | (with_reducible refine AW_region tyOk ?_)
        | (with_reducible refine AOps_cons (fun K hK => ?_))
        | ((with_reducible refine AOps_nil ?_); try simp only [thenA, blockA, if_true, if_false, reduceIte, Nat.reduceEqDiff, reduceCtorEq])
        | (with_reducible refine AW_block ?_)
        | ((first | (with_reducible refine AW_ret ?_) | (with_reducible refine AW_skip ?_) | (with_reducible refine AW_exit ?_)); try simp only [thenA, blockA, if_true, if_false, reduceIte, Nat.reduceEqDiff, reduceCtorEq])
        | ((with_reducible show AW _ _ (.cond _ _ _) _ _ _); refine AW_cond rfl (fun hg => ?_) (fun hg => ?_) <;> first | (exfalso; simp only [reduceCtorEq] at hg; done) | ((try simp only [Bool.not_eq_true', Bool.not_eq_false', decide_eq_true_eq, decide_eq_false_iff_not] at hg); try (exfalso; omega)))
        | ((with_reducible show _ ∧ _); refine And.intro (fun hg => ?_) (fun hg => ?_) <;> (try simp only [Bool.not_eq_true', Bool.not_eq_false'] at hg) <;> simp only [hg] <;> (try simp only [decide_eq_true_eq, decide_eq_false_iff_not] at hg) <;> (try (exfalso; omega)))
        | (clear hK K)
        | fail)
      all_goals (first | refine EndA_cut hcl (by first | exact Or.inr rfl | exact Or.inl rfl) (by simp only [Try.results55, resA, aresL, go_sem, reduceIte, reduceCtorEq, Nat.reduceAdd, Nat.reduceMul, Nat.reduceSub, Nat.reduceLeDiff, Nat.lt_irrefl, Nat.reduceLT, Nat.reduceEqDiff, Nat.reduceBEq, Int.reduceLE, Int.reduceLT, Int.reduceToNat, w64, eq_self] <;> rfl) rfl ?_ | refine EndA_same (by first | exact Or.inr rfl | exact Or.inl rfl) (by simp only [Try.results55, resA, aresL, go_sem, reduceIte, reduceCtorEq, Nat.reduceAdd, Nat.reduceMul, Nat.reduceSub, Nat.reduceLeDiff, Nat.lt_irrefl, Nat.reduceLT, Nat.reduceEqDiff, Nat.reduceBEq, Int.reduceLE, Int.reduceLT, Int.reduceToNat, w64, eq_self] <;> rfl) ?_)
      refine ⟨rfl, ?_⟩
      rcases Nat.eq_or_lt_of_le h1 with hab | hab
      · subst hab
        rw [upd_none, show i0 = a + 1 by omega, upd_one]
      · rw [show i0 = b by omega]
end Go.Proofs.Yteejnmgjjefbiaa
