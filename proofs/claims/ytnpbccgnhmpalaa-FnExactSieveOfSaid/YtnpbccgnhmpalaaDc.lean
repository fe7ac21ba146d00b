/- A key put into a sieve, in the abstract machine. -/
import Derived.Test.YtnpbccgnhmpalaaDb
namespace Go.Proofs.Ytnpbccgnhmpalaa
open Go.RowKit
set_option linter.unusedSimpArgs false
set_option linter.unusedVariables false
set_option maxRecDepth 100000

set_option maxHeartbeats 4000000 in
theorem l04Put_c (id ver b vb el R : Nat) (k s : Int) (bs : List Bool) (H : Hp) (hp : PtL H id ver [.int .i64 (R : Nat), .int .i64 s, .sl b vb 0 bs.length none]) (hb : H[b]? = some ⟨vb, false, el, 1, bs.map LV.bool⟩) (hne : id ≠ b)
    (hR : R ≤ 8) (hk0 : 0 ≤ k) (hk1 : k ≤ 4294967295) (hs0 : 0 ≤ s) (hs1 : s ≤ 4294967295) (h1 : 1 ≤ bs.length) (h2 : bs.length ≤ 512) :
    FunH Try.prog 95 [.ptr id ver 0, .int .i64 k] H fun r H' => r = .tup [] ∧ H' = H.set b ⟨vb, false, el, 1, (putN bs (plF k s bs.length) R).map LV.bool⟩ := by
  have hid := lt_of_get hb
  obtain ⟨n, hn⟩ : ∃ n, bs.length = n := ⟨_, rfl⟩
  rw [hn] at hp h1 h2 ⊢
  obtain ⟨f, hf⟩ : ∃ f : Nat → Int, plF k s n = f := ⟨_, rfl⟩
  rw [hf]
  (refine FunH_body tyOk Try.func95 rfl (by kernel_rfl) Try.ntmps95 (fun hcl hbd => ?_); simp only [List.length_cons, List.length_nil, Nat.reduceAdd, Nat.reduceSub, List.replicate, List.cons_append, List.nil_append])
  repeat' (first
    | ((with_reducible refine hK _ _ ?_); clear hK K)
    | ((with_reducible refine hK _ ?_); clear hK K; try simp only [])
    | ((first | (with_reducible show AOp _ _ _ _ _ _ _) | (with_reducible show AQOp _ _ _ _ _ _ _)); simp (disch := first | ((with_reducible show liveO _ _ _ = true); first | assumption | (exact liveO_setS (by assumption)) | (exact PtL.live (by assumption)) | (exact PtL.liveA (by assumption) _) | (simp only [go_sem]; done)) | omega | assumption | rfl | (simp only [go_sem]; first | done | omega)) only [go_sem, reduceIte, reduceCtorEq, Nat.reduceAdd, Nat.reduceMul, Nat.reduceSub, Nat.reduceLeDiff, Nat.lt_irrefl, Nat.reduceLT, Nat.reduceEqDiff, Nat.reduceBEq, Int.reduceLE, Int.reduceLT, Int.reduceToNat, w64, eq_self, hp.get])
    | (with_reducible refine AW_seq (fun K hK => ?_))
    | (with_reducible refine AW_region tyOk ?_)
    | ((with_reducible refine AW_drawn (id := 0) tyOk 14 ?_ ?_ ?_); (kernel_rfl); (kernel_rfl); simp only [List.take_succ_cons, List.take_zero, List.drop_succ_cons, List.drop_zero])
    | ((with_reducible refine AW_drawn (id := 4) tyOk 9 ?_ ?_ ?_); (kernel_rfl); (kernel_rfl); simp only [List.take_succ_cons, List.take_zero, List.drop_succ_cons, List.drop_zero])
    | (with_reducible refine AOps_cons (fun K hK => ?_))
    | (with_reducible refine AQOps_cons (fun K hK => ?_))
    | ((with_reducible refine AQOps_nil ?_); try simp only [thenA, blockA, if_true, if_false, reduceIte, Nat.reduceEqDiff, reduceCtorEq])
    | ((with_reducible refine AOps_nil ?_); try simp only [thenA, blockA, if_true, if_false, reduceIte, Nat.reduceEqDiff, reduceCtorEq])
    | (with_reducible refine AW_block ?_)
    | ((first | (with_reducible refine AW_ret ?_) | (with_reducible refine AW_skip ?_) | (with_reducible refine AW_exit ?_)); try simp only [thenA, blockA, if_true, if_false, reduceIte, Nat.reduceEqDiff, reduceCtorEq])
    | ((with_reducible show AW _ _ (.cond _ _ _) _ _ _); refine AW_cond rfl (fun hg => ?_) (fun hg => ?_) <;> first | (exfalso; simp only [reduceCtorEq] at hg; done) | ((try simp only [Bool.not_eq_true', Bool.not_eq_false', decide_eq_true_eq, decide_eq_false_iff_not] at hg); try (exfalso; omega)))
    | ((with_reducible show _ ∧ _); refine And.intro (fun hg => ?_) (fun hg => ?_) <;> (try simp only [Bool.not_eq_true', Bool.not_eq_false'] at hg) <;> simp only [hg] <;> (try simp only [decide_eq_true_eq, decide_eq_false_iff_not] at hg) <;> (try (exfalso; omega)))
    | ((first | (with_reducible apply FunH_intro) | (with_reducible apply AQ_intro)); (first | exact l04Places_c _ _ _ _ (by first | assumption | omega | (simp; omega) | (simp; done)) (by first | assumption | omega | (simp; omega) | (simp; done)) (by first | assumption | omega | (simp; omega) | (simp; done)) (by first | assumption | omega | (simp; omega) | (simp; done)) (by first | assumption | omega | (simp; omega) | (simp; done)) (by first | assumption | omega | (simp; omega) | (simp; done)) (by first | assumption | omega | (simp; omega) | (simp; done)) _))
    | (clear hK K)
    | fail)
  refine AW_loopV [5, 21, 22, 23, 24, 25, 26, 27, 28, 29, 30, 31, 32, 33, 34, 35] (fun i : Nat => [(5, .int .i64 (i : Nat))]) (fun i => H.set b ⟨vb, false, el, 1, (putN bs f i).map LV.bool⟩ ++ [⟨0, false, 2, 1, (spotsL k s n R).map (LV.int .i64)⟩]) (fun i => i ≤ R) (fun i => R - i) 0 (Nat.zero_le _) ?_ ?_ ?_
  · simp only [junkAll, setAll, List.foldl_cons, List.foldl_nil, List.set_cons_succ, List.set_cons_zero, JL, true_or, or_true, and_true, true_and, reduceCtorEq, false_or, or_false, LV.int.injEq, LV.bool.injEq, LV.flt.injEq, LV.sl.injEq, LV.ptr.injEq, eq_self, Int.natCast_add, Int.natCast_one, Int.natCast_zero, Int.ofNat_zero]
  · simp only [putN, set_self hb]
  · intro i hi K hK
    have hM : RdL (H.set b ⟨vb, false, el, 1, (putN bs f i).map LV.bool⟩ ++ [⟨0, false, 2, 1, (spotsL k s n R).map (LV.int .i64)⟩]) (.sl H.length 0 0 R none) ((spotsL k s n R).map (LV.int .i64)) := by
      have := RdL_h0 (H := H.set b ⟨vb, false, el, 1, (putN bs f i).map LV.bool⟩) (K := [⟨0, false, 2, 1, (spotsL k s n R).map (LV.int .i64)⟩]) (n := R) rfl (by simp [spotsL_len])
      simpa using this
    have hpc : PtL (H.set b ⟨vb, false, el, 1, (putN bs f i).map LV.bool⟩ ++ [⟨0, false, 2, 1, (spotsL k s n R).map (LV.int .i64)⟩]) id ver [.int .i64 (R : Nat), .int .i64 s, .sl b vb 0 n none] := (hp.setNe hne _).app _
    have hlb : liveO (H.set b ⟨vb, false, el, 1, (putN bs f i).map LV.bool⟩ ++ [⟨0, false, 2, 1, (spotsL k s n R).map (LV.int .i64)⟩]) b vb = true := liveO_setA hid
    have hlp := hpc.live
    have hsl := spotsL_len k s n R
    simp only [junkAll, setAll, List.foldl_cons, List.foldl_nil, List.set_cons_succ, List.set_cons_zero]
    by_cases hiR : i < R
    · have hB := belowI_b k (saltI s (i : Nat)) n (by omega) (by omega)
      have hix : ix (spotsL k s n R) i = f i := by rw [← hf]; exact spotsL_ix k s n R i hiR
      have hpl : 0 ≤ f i ∧ f i < n := by rw [← hf]; exact hB
      have hln := putN_len bs f i
      have hidx : idxP (H.set b ⟨vb, false, el, 1, (putN bs f i).map LV.bool⟩ ++ [⟨0, false, 2, 1, (spotsL k s n R).map (LV.int .i64)⟩]) 1 (f i) (.sl b vb 0 n none) = some (.ptr b vb (f i).toNat) := by
        rw [idxP_sl hpl.1 hpl.2 hlb]; simp
      have hpu : hput (H.set b ⟨vb, false, el, 1, (putN bs f i).map LV.bool⟩ ++ [⟨0, false, 2, 1, (spotsL k s n R).map (LV.int .i64)⟩]) b vb (f i).toNat [.bool true] = some (H.set b ⟨vb, false, el, 1, (putN bs f (i + 1)).map LV.bool⟩ ++ [⟨0, false, 2, 1, (spotsL k s n R).map (LV.int .i64)⟩]) := by
        rw [hput_setA hid (by simp; omega), ← putN_map]; simp only [sets]
      repeat' (first
        | ((with_reducible refine hK _ _ ?_); clear hK K)
        | ((with_reducible refine hK _ ?_); clear hK K; try simp only [])
        | ((first | (with_reducible show AOp _ _ _ _ _ _ _) | (with_reducible show AQOp _ _ _ _ _ _ _)); simp (disch := first | ((with_reducible show liveO _ _ _ = true); first | assumption | (exact liveO_setS (by assumption)) | (exact PtL.live (by assumption)) | (exact PtL.liveA (by assumption) _) | (simp only [go_sem]; done)) | omega | assumption | rfl | (simp only [go_sem]; first | done | omega)) only [go_sem, reduceIte, reduceCtorEq, Nat.reduceAdd, Nat.reduceMul, Nat.reduceSub, Nat.reduceLeDiff, Nat.lt_irrefl, Nat.reduceLT, Nat.reduceEqDiff, Nat.reduceBEq, Int.reduceLE, Int.reduceLT, Int.reduceToNat, w64, eq_self, hpc.get, hM.idxm, hM.ldm, hix, hidx, hpu])
        | (with_reducible refine AW_seq (fun K hK => ?_))
        | (with_reducible refine AW_region tyOk ?_)
        | ((with_reducible refine AW_drawn (id := 0) tyOk 14 ?_ ?_ ?_); (kernel_rfl); (kernel_rfl); simp only [List.take_succ_cons, List.take_zero, List.drop_succ_cons, List.drop_zero])
        | ((with_reducible refine AW_drawn (id := 4) tyOk 9 ?_ ?_ ?_); (kernel_rfl); (kernel_rfl); simp only [List.take_succ_cons, List.take_zero, List.drop_succ_cons, List.drop_zero])
        | (with_reducible refine AOps_cons (fun K hK => ?_))
        | (with_reducible refine AQOps_cons (fun K hK => ?_))
        | ((with_reducible refine AQOps_nil ?_); try simp only [thenA, blockA, if_true, if_false, reduceIte, Nat.reduceEqDiff, reduceCtorEq])
        | ((with_reducible refine AOps_nil ?_); try simp only [thenA, blockA, if_true, if_false, reduceIte, Nat.reduceEqDiff, reduceCtorEq])
        | (with_reducible refine AW_block ?_)
        | ((first | (with_reducible refine AW_ret ?_) | (with_reducible refine AW_skip ?_) | (with_reducible refine AW_exit ?_)); try simp only [thenA, blockA, if_true, if_false, reduceIte, Nat.reduceEqDiff, reduceCtorEq])
        | ((with_reducible show AW _ _ (.cond _ _ _) _ _ _); refine AW_cond rfl (fun hg => ?_) (fun hg => ?_) <;> first | (exfalso; simp only [reduceCtorEq] at hg; done) | ((try simp only [Bool.not_eq_true', Bool.not_eq_false', decide_eq_true_eq, decide_eq_false_iff_not] at hg); try (exfalso; omega)))
        | ((with_reducible show _ ∧ _); refine And.intro (fun hg => ?_) (fun hg => ?_) <;> (try simp only [Bool.not_eq_true', Bool.not_eq_false'] at hg) <;> simp only [hg] <;> (try simp only [decide_eq_true_eq, decide_eq_false_iff_not] at hg) <;> (try (exfalso; omega)))
        | ((first | (with_reducible apply FunH_intro) | (with_reducible apply AQ_intro)); (first | exact l04Places_c _ _ _ _ (by first | assumption | omega | (simp; omega) | (simp; done)) (by first | assumption | omega | (simp; omega) | (simp; done)) (by first | assumption | omega | (simp; omega) | (simp; done)) (by first | assumption | omega | (simp; omega) | (simp; done)) (by first | assumption | omega | (simp; omega) | (simp; done)) (by first | assumption | omega | (simp; omega) | (simp; done)) (by first | assumption | omega | (simp; omega) | (simp; done)) _))
        | (clear hK K)
        | fail)
      refine hK _ _ (i + 1) (by omega) (by omega) ?_ rfl
      simp only [junkAll, setAll, List.foldl_cons, List.foldl_nil, List.set_cons_succ, List.set_cons_zero, JL, true_or, or_true, and_true, true_and, reduceCtorEq, false_or, or_false, LV.int.injEq, LV.bool.injEq, LV.flt.injEq, LV.sl.injEq, LV.ptr.injEq, eq_self, Int.natCast_add, Int.natCast_one, Int.natCast_zero, Int.ofNat_zero]
    · have ei : i = R := by omega
      subst ei
      repeat' (first
        | ((with_reducible refine hK _ _ ?_); clear hK K)
        | ((with_reducible refine hK _ ?_); clear hK K; try simp only [])
        | ((first | (with_reducible show AOp _ _ _ _ _ _ _) | (with_reducible show AQOp _ _ _ _ _ _ _)); simp (disch := first | ((with_reducible show liveO _ _ _ = true); first | assumption | (exact liveO_setS (by assumption)) | (exact PtL.live (by assumption)) | (exact PtL.liveA (by assumption) _) | (simp only [go_sem]; done)) | omega | assumption | rfl | (simp only [go_sem]; first | done | omega)) only [go_sem, reduceIte, reduceCtorEq, Nat.reduceAdd, Nat.reduceMul, Nat.reduceSub, Nat.reduceLeDiff, Nat.lt_irrefl, Nat.reduceLT, Nat.reduceEqDiff, Nat.reduceBEq, Int.reduceLE, Int.reduceLT, Int.reduceToNat, w64, eq_self, hpc.get, hM.idxm, hM.ldm])
        | (with_reducible refine AW_seq (fun K hK => ?_))
        | (with_reducible refine AW_region tyOk ?_)
        | ((with_reducible refine AW_drawn (id := 0) tyOk 14 ?_ ?_ ?_); (kernel_rfl); (kernel_rfl); simp only [List.take_succ_cons, List.take_zero, List.drop_succ_cons, List.drop_zero])
        | ((with_reducible refine AW_drawn (id := 4) tyOk 9 ?_ ?_ ?_); (kernel_rfl); (kernel_rfl); simp only [List.take_succ_cons, List.take_zero, List.drop_succ_cons, List.drop_zero])
        | (with_reducible refine AOps_cons (fun K hK => ?_))
        | (with_reducible refine AQOps_cons (fun K hK => ?_))
        | ((with_reducible refine AQOps_nil ?_); try simp only [thenA, blockA, if_true, if_false, reduceIte, Nat.reduceEqDiff, reduceCtorEq])
        | ((with_reducible refine AOps_nil ?_); try simp only [thenA, blockA, if_true, if_false, reduceIte, Nat.reduceEqDiff, reduceCtorEq])
        | (with_reducible refine AW_block ?_)
        | ((first | (with_reducible refine AW_ret ?_) | (with_reducible refine AW_skip ?_) | (with_reducible refine AW_exit ?_)); try simp only [thenA, blockA, if_true, if_false, reduceIte, Nat.reduceEqDiff, reduceCtorEq])
        | ((with_reducible show AW _ _ (.cond _ _ _) _ _ _); refine AW_cond rfl (fun hg => ?_) (fun hg => ?_) <;> first | (exfalso; simp only [reduceCtorEq] at hg; done) | ((try simp only [Bool.not_eq_true', Bool.not_eq_false', decide_eq_true_eq, decide_eq_false_iff_not] at hg); try (exfalso; omega)))
        | ((with_reducible show _ ∧ _); refine And.intro (fun hg => ?_) (fun hg => ?_) <;> (try simp only [Bool.not_eq_true', Bool.not_eq_false'] at hg) <;> simp only [hg] <;> (try simp only [decide_eq_true_eq, decide_eq_false_iff_not] at hg) <;> (try (exfalso; omega)))
        | ((first | (with_reducible apply FunH_intro) | (with_reducible apply AQ_intro)); (first | exact l04Places_c _ _ _ _ (by first | assumption | omega | (simp; omega) | (simp; done)) (by first | assumption | omega | (simp; omega) | (simp; done)) (by first | assumption | omega | (simp; omega) | (simp; done)) (by first | assumption | omega | (simp; omega) | (simp; done)) (by first | assumption | omega | (simp; omega) | (simp; done)) (by first | assumption | omega | (simp; omega) | (simp; done)) (by first | assumption | omega | (simp; omega) | (simp; done)) _))
        | (clear hK K)
        | fail)
      all_goals (refine EndA_cutS (H1 := H.set b ⟨vb, false, el, 1, (putN bs f i).map LV.bool⟩) (hcl.setScal b ⟨vb, false, el, 1, (putN bs f i).map LV.bool⟩ (bool_bnd _)) (by simp) (by first | exact Or.inr rfl | exact Or.inl rfl) (by simp only [Try.results95, resA, aresL, go_sem, reduceIte, reduceCtorEq, Nat.reduceAdd, Nat.reduceMul, Nat.reduceSub, Nat.reduceLeDiff, Nat.lt_irrefl, Nat.reduceLT, Nat.reduceEqDiff, Nat.reduceBEq, Int.reduceLE, Int.reduceLT, Int.reduceToNat, w64, eq_self] <;> rfl) rfl ?_)
      all_goals exact ⟨rfl, rfl⟩
end Go.Proofs.Ytnpbccgnhmpalaa
