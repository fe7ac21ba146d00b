/- Ranks of summaries, in the abstract machine. -/
import Derived.Test.YtleldjglhkmgmaaBp
import Derived.Test.YtleldjglhkmgmaaBf
import Derived.Test.YtleldjglhkmgmaaBw
namespace Go.Proofs.Ytleldjglhkmgmaa
open Go.RowKit
set_option linter.unusedSimpArgs false
set_option linter.unusedVariables false
set_option maxRecDepth 100000

/-- A test that holds of a list's beginning. -/
theorem countP_pre {α : Type} [Inhabited α] (p : α → Bool) : ∀ (xs : List α), (∀ i, i + 1 < xs.length → p (ix xs (i + 1)) = true → p (ix xs i) = true) → ∀ i, i < xs.length → p (ix xs i) = decide (i < xs.countP p)
  | [], _, i, hi => by simp at hi
  | a :: xs, h, i, hi => by
    have e0 : ix (a :: xs) 0 = a := rfl
    have es : ∀ j, ix (a :: xs) (j + 1) = ix xs j := fun j => rfl
    have ih := countP_pre p xs fun j hj hp => by
      have := h (j + 1) (by simpa using hj) (by rw [es]; exact hp)
      rwa [es] at this
    cases ha : p a with
    | true =>
      rw [List.countP_cons_of_pos ha]
      cases i with
      | zero => rw [e0, ha]; simp
      | succ j =>
        rw [es, ih j (by simpa using hi)]
        simp
    | false =>
      rw [List.countP_cons_of_neg (by simp [ha])]
      have hz : ∀ j, j < (a :: xs).length → p (ix (a :: xs) j) = false := by
        intro j
        induction j with
        | zero => intro _; rw [e0]; exact ha
        | succ j ihj =>
          intro hj
          cases hp : p (ix (a :: xs) (j + 1)) with
          | false => rfl
          | true => have := h j hj hp; rw [ihj (by omega)] at this; cases this
      have hc : xs.countP p = 0 := by
        rw [List.countP_eq_zero]
        intro x hx
        obtain ⟨j, hj, rfl⟩ := List.getElem_of_mem hx
        have := hz (j + 1) (by simpa using hj)
        rw [es, ix_eq _ _ hj] at this
        simp [this]
      rw [hz i hi, hc]; simp
theorem asc_rank {vs : List (Option Nat)} {x : Option Nat} (h : ascFB vs = true) (hx : finO x = true) : ∀ i, i < vs.length → fLe .f32 (ix vs i) x = decide (i < vs.countP fun y => fLe .f32 y x) := by
  unfold ascFB at h
  rw [Bool.and_eq_true] at h
  have hf : ∀ j, j < vs.length → finO (ix vs j) = true := fun j hj => List.all_eq_true.1 h.1 _ (ix_mem _ _ hj)
  refine countP_pre (fun y => fLe .f32 y x) vs fun j hj hp => ?_
  have h2 := (ascB_iff ltF vs).1 h.2 j hj
  unfold ltF at h2
  rw [fLt_kO (hf _ hj) (hf _ (by omega))] at h2
  rw [fLe_kO (hf _ hj) hx] at hp
  rw [fLe_kO (hf _ (by omega)) hx]
  simp at h2 hp ⊢; omega
theorem summB_all {n c : Int} {vs : List (Option Nat)} {gs ss : List Int} (h : summB n c vs gs ss = true) :
    (2 ≤ n ∧ n ≤ 1000) ∧ (0 ≤ c ∧ c ≤ 1000000) ∧ vs.length ≤ 64 ∧ gs.length = vs.length ∧ ss.length = vs.length ∧ ascFB vs = true ∧ (∀ x ∈ gs, 1 ≤ x ∧ x ≤ 1000000) ∧ (∀ x ∈ ss, 0 ≤ x ∧ x ≤ c) ∧ sumI gs = c ∧ endsB gs ss = true := by
  unfold summB at h
  simp only [Bool.and_eq_true, decide_eq_true_eq] at h
  obtain ⟨⟨⟨⟨⟨⟨⟨⟨⟨h1, h2⟩, h3⟩, h4⟩, h5⟩, h6⟩, h7⟩, h8⟩, h9⟩, h10⟩ := h
  exact ⟨by simpa [inB] using h1, by simpa [inB] using h2, h3, h4, h5, h6, inB_all h7, inB_all h8, h9, h10⟩
theorem sumI_le {xs : List Int} (hb : ∀ x ∈ xs, 0 ≤ x) : ∀ m k, k + m = xs.length → sumI (xs.take k) ≤ sumI xs
  | 0, k, h => by rw [List.take_of_length_le (by omega)]; exact Int.le_refl _
  | m + 1, k, h => by
    have h1 := sumI_le hb m (k + 1) (by omega)
    rw [sumI_take (by omega)] at h1
    have h2 := hb _ (ix_mem xs k (by omega))
    omega
theorem asliceS_0 (te : TE) (H : Hp) (x : LV) (hi mx : Option LV) : asliceS te H x none hi mx = asliceS te H x (some (.int .i64 0)) hi mx := by
  have h : ∀ b : Nat, asliceB b none 0 = asliceB b (some (.int .i64 0)) 0 := by intro b; simp [asliceB]
  unfold asliceS; cases x <;> simp only [h]
theorem ranks_c (n c : Int) (x y z : LV) (gs ss : List Int) (i : Nat) (H : Hp) (hx : x.isCell = true) (h1 : RdL H y (gs.map (LV.int .i64))) (h2 : RdL H z (ss.map (LV.int .i64))) (hi : i < gs.length) (hi2 : i < ss.length) (hn : gs.length ≤ 1048576) (hb : ∀ x ∈ gs, -1000000000000 ≤ x ∧ x ≤ 1000000000000) (hc : ∀ x ∈ ss, -1000000000000 ≤ x ∧ x ≤ 1000000000000) :
    FunH Try.prog 108 [.agg [.int .i64 n, .int .i64 c, x, y, z], .int .i64 (i : Nat)] H fun r H' => r = .tup [.int .i64 (sumI (gs.take (i + 1))), .int .i64 (sumI (gs.take (i + 1)) + ix ss i)] ∧ H' = H := by
  have hs := sumI_fit hn hb (i + 1) (by omega)
  have hc' := hc _ (ix_mem ss i hi2)
  have hr : RdL H (subOf y 0 (i + 1)) ((gs.take (i + 1)).map (LV.int .i64)) := h1.subm (l := 0) (m := i + 1) (by omega) (by omega)
  have hb' : ∀ x ∈ gs.take (i + 1), -1000000000000 ≤ x ∧ x ≤ 1000000000000 := fun x hx => hb x (List.mem_of_mem_take hx)
  have hsl : ∀ K : Hp, asliceS ⟨.int .i64, 1, 8, [.int .i64 0]⟩ (H ++ K) y none (some (.int .i64 ((i : Int) + 1))) none = some (subOf y 0 (i + 1)) := by
    intro K
    rw [asliceS_0, (h1.app K).slice rfl (by omega) (by omega) (by simp; omega), show ((i : Int) + 1).toNat = i + 1 by omega]; rfl
  (refine FunH_body tyOk Try.func108 rfl (by kernel_rfl) Try.ntmps108 (fun hcl hbd => ?_); simp only [List.length_cons, List.length_nil, Nat.reduceAdd, Nat.reduceSub, List.replicate, List.cons_append, List.nil_append])
  repeat' (first
    | ((with_reducible refine hK _ _ ?_); clear hK K)
    | ((with_reducible refine hK _ ?_); clear hK K; try simp only [])
    | ((first | (with_reducible show AOp _ _ _ _ _ _ _) | (with_reducible show AQOp _ _ _ _ _ _ _)); simp (disch := first | omega | assumption | rfl | (exact liveO_setS (by assumption)) | (exact PtL.live (by assumption)) | (exact PtL.liveA (by assumption) _) | (simp only [go_sem]; first | done | omega)) only [go_sem, reduceIte, reduceCtorEq, Nat.reduceAdd, Nat.reduceMul, Nat.reduceSub, Nat.reduceLeDiff, Nat.lt_irrefl, Nat.reduceLT, Nat.reduceEqDiff, Nat.reduceBEq, Int.reduceLE, Int.reduceLT, Int.reduceToNat, w64, eq_self, hx, hsl, h1.isCell, h2.isCell, h2.lenm, h2.idxmA, h2.ldmA, h2.idxm, h2.ldm])
    | (with_reducible refine AW_seq (fun K hK => ?_))
    | (with_reducible refine AW_region tyOk ?_)
    | ((with_reducible refine AW_quiet (id := 2) tyOk ?_ ?_ ?_); (kernel_rfl); (kernel_rfl))
    | (with_reducible refine AOps_cons (fun K hK => ?_))
    | (with_reducible refine AQOps_cons (fun K hK => ?_))
    | ((with_reducible refine AQOps_nil ?_); try simp (disch := first | omega | assumption | rfl | (exact liveO_setS (by assumption)) | (exact PtL.live (by assumption)) | (exact PtL.liveA (by assumption) _) | (simp only [thenA, blockA, go_sem]; first | done | omega)) only [thenA, blockA, go_sem, reduceIte, reduceCtorEq, Nat.reduceAdd, Nat.reduceMul, Nat.reduceSub, Nat.reduceLeDiff, Nat.lt_irrefl, Nat.reduceLT, Nat.reduceEqDiff, Nat.reduceBEq, Int.reduceLE, Int.reduceLT, Int.reduceToNat, w64, eq_self, hx, hsl, h1.isCell, h2.isCell, h2.lenm, h2.idxmA, h2.ldmA, h2.idxm, h2.ldm])
    | ((with_reducible refine AOps_nil ?_); try simp (disch := first | omega | assumption | rfl | (exact liveO_setS (by assumption)) | (exact PtL.live (by assumption)) | (exact PtL.liveA (by assumption) _) | (simp only [thenA, blockA, go_sem]; first | done | omega)) only [thenA, blockA, go_sem, reduceIte, reduceCtorEq, Nat.reduceAdd, Nat.reduceMul, Nat.reduceSub, Nat.reduceLeDiff, Nat.lt_irrefl, Nat.reduceLT, Nat.reduceEqDiff, Nat.reduceBEq, Int.reduceLE, Int.reduceLT, Int.reduceToNat, w64, eq_self, hx, hsl, h1.isCell, h2.isCell, h2.lenm, h2.idxmA, h2.ldmA, h2.idxm, h2.ldm])
    | (with_reducible refine AW_block ?_)
    | ((first | (with_reducible refine AW_ret ?_) | (with_reducible refine AW_skip ?_) | (with_reducible refine AW_exit ?_)); try simp only [thenA, blockA, if_true, if_false, reduceIte, Nat.reduceEqDiff, reduceCtorEq])
    | ((with_reducible show AW _ _ (.cond _ _ _) _ _ _); refine AW_cond rfl (fun hg => ?_) (fun hg => ?_) <;> first | (exfalso; simp only [reduceCtorEq] at hg; done) | ((try simp only [Bool.not_eq_true', Bool.not_eq_false', decide_eq_true_eq, decide_eq_false_iff_not] at hg); try (exfalso; omega)))
    | ((with_reducible show _ ∧ _); refine And.intro (fun hg => ?_) (fun hg => ?_) <;> (try simp only [Bool.not_eq_true', Bool.not_eq_false'] at hg) <;> simp only [hg] <;> (try simp only [decide_eq_true_eq, decide_eq_false_iff_not] at hg) <;> (try (exfalso; omega)))
    | ((first | (with_reducible apply FunH_intro) | (with_reducible apply AQ_intro)); (first | exact sumOf_c _ _ _ (by first | assumption | exact RdL.app (by assumption) _ | exact RdL_hj rfl (by simp) | exact RdL_h0 rfl (by simp) | exact RdL_nil | exact RdL_emp) (by first | assumption | omega | (simp; omega) | (simp; done)) (by first | assumption | (simp; done))))
    | (clear hK K)
    | fail)
  all_goals (first | refine EndA_cut hcl (by first | exact Or.inr rfl | exact Or.inl rfl) (by simp only [Try.results108, resA, aresL, go_sem, reduceIte, reduceCtorEq, Nat.reduceAdd, Nat.reduceMul, Nat.reduceSub, Nat.reduceLeDiff, Nat.lt_irrefl, Nat.reduceLT, Nat.reduceEqDiff, Nat.reduceBEq, Int.reduceLE, Int.reduceLT, Int.reduceToNat, w64, eq_self] <;> rfl) rfl ?_ | refine EndA_same (by first | exact Or.inr rfl | exact Or.inl rfl) (by simp only [Try.results108, resA, aresL, go_sem, reduceIte, reduceCtorEq, Nat.reduceAdd, Nat.reduceMul, Nat.reduceSub, Nat.reduceLeDiff, Nat.lt_irrefl, Nat.reduceLT, Nat.reduceEqDiff, Nat.reduceBEq, Int.reduceLE, Int.reduceLT, Int.reduceToNat, w64, eq_self] <;> rfl) ?_)
  all_goals exact ⟨rfl, rfl⟩
theorem l05Ranks_c (id ver : Nat) (n c : Int) (x y z : LV) (gs ss : List Int) (i : Nat) (H : Hp) (hp : PtL H id ver [.int .i64 n, .int .i64 c, x, y, z]) (h1 : RdL H y (gs.map (LV.int .i64))) (h2 : RdL H z (ss.map (LV.int .i64))) (hi : i < gs.length) (hi2 : i < ss.length) (hn : gs.length ≤ 1048576) (hb : ∀ x ∈ gs, -1000000000000 ≤ x ∧ x ≤ 1000000000000) (hc : ∀ x ∈ ss, -1000000000000 ≤ x ∧ x ≤ 1000000000000) :
    FunH Try.prog 105 [.ptr id ver 0, .int .i64 (i : Nat)] H fun r H' => r = .tup [.int .i64 (sumI (gs.take (i + 1))), .int .i64 (sumI (gs.take (i + 1)) + ix ss i)] ∧ H' = H := by
  have hs := sumI_fit hn hb (i + 1) (by omega)
  have hc' := hc _ (ix_mem ss i hi2)
  (refine FunH_body tyOk Try.func105 rfl (by kernel_rfl) Try.ntmps105 (fun hcl hbd => ?_); simp only [List.length_cons, List.length_nil, Nat.reduceAdd, Nat.reduceSub, List.replicate, List.cons_append, List.nil_append])
  repeat' (first
    | ((with_reducible refine hK _ _ ?_); clear hK K)
    | ((with_reducible refine hK _ ?_); clear hK K; try simp only [])
    | ((first | (with_reducible show AOp _ _ _ _ _ _ _) | (with_reducible show AQOp _ _ _ _ _ _ _)); simp (disch := first | omega | assumption | rfl | (exact liveO_setS (by assumption)) | (exact PtL.live (by assumption)) | (exact PtL.liveA (by assumption) _) | (simp only [go_sem]; first | done | omega)) only [go_sem, reduceIte, reduceCtorEq, Nat.reduceAdd, Nat.reduceMul, Nat.reduceSub, Nat.reduceLeDiff, Nat.lt_irrefl, Nat.reduceLT, Nat.reduceEqDiff, Nat.reduceBEq, Int.reduceLE, Int.reduceLT, Int.reduceToNat, w64, eq_self, hp.get])
    | (with_reducible refine AW_seq (fun K hK => ?_))
    | (with_reducible refine AW_region tyOk ?_)
    | ((with_reducible refine AW_quiet (id := 6) tyOk ?_ ?_ ?_); (kernel_rfl); (kernel_rfl))
    | (with_reducible refine AOps_cons (fun K hK => ?_))
    | (with_reducible refine AQOps_cons (fun K hK => ?_))
    | ((with_reducible refine AQOps_nil ?_); try simp (disch := first | omega | assumption | rfl | (exact liveO_setS (by assumption)) | (exact PtL.live (by assumption)) | (exact PtL.liveA (by assumption) _) | (simp only [thenA, blockA, go_sem]; first | done | omega)) only [thenA, blockA, go_sem, reduceIte, reduceCtorEq, Nat.reduceAdd, Nat.reduceMul, Nat.reduceSub, Nat.reduceLeDiff, Nat.lt_irrefl, Nat.reduceLT, Nat.reduceEqDiff, Nat.reduceBEq, Int.reduceLE, Int.reduceLT, Int.reduceToNat, w64, eq_self, hp.get])
    | ((with_reducible refine AOps_nil ?_); try simp (disch := first | omega | assumption | rfl | (exact liveO_setS (by assumption)) | (exact PtL.live (by assumption)) | (exact PtL.liveA (by assumption) _) | (simp only [thenA, blockA, go_sem]; first | done | omega)) only [thenA, blockA, go_sem, reduceIte, reduceCtorEq, Nat.reduceAdd, Nat.reduceMul, Nat.reduceSub, Nat.reduceLeDiff, Nat.lt_irrefl, Nat.reduceLT, Nat.reduceEqDiff, Nat.reduceBEq, Int.reduceLE, Int.reduceLT, Int.reduceToNat, w64, eq_self, hp.get])
    | (with_reducible refine AW_block ?_)
    | ((first | (with_reducible refine AW_ret ?_) | (with_reducible refine AW_skip ?_) | (with_reducible refine AW_exit ?_)); try simp only [thenA, blockA, if_true, if_false, reduceIte, Nat.reduceEqDiff, reduceCtorEq])
    | ((with_reducible show AW _ _ (.cond _ _ _) _ _ _); refine AW_cond rfl (fun hg => ?_) (fun hg => ?_) <;> first | (exfalso; simp only [reduceCtorEq] at hg; done) | ((try simp only [Bool.not_eq_true', Bool.not_eq_false', decide_eq_true_eq, decide_eq_false_iff_not] at hg); try (exfalso; omega)))
    | ((with_reducible show _ ∧ _); refine And.intro (fun hg => ?_) (fun hg => ?_) <;> (try simp only [Bool.not_eq_true', Bool.not_eq_false'] at hg) <;> simp only [hg] <;> (try simp only [decide_eq_true_eq, decide_eq_false_iff_not] at hg) <;> (try (exfalso; omega)))
    | (clear hK K)
    | fail)
  refine AW_loopV [6, 7, 8, 9, 10, 11, 12, 13, 14, 15, 16, 17, 18, 19, 20, 21] (fun k : Nat => [(6, .int .i64 (sumI (gs.take k))), (7, .int .i64 (k : Nat))]) (fun _ => H) (fun k => k ≤ i + 1) (fun k => i + 1 - k) 0 (Nat.zero_le _) ?_ rfl ?_
  · simp only [junkAll, setAll, List.foldl_cons, List.foldl_nil, List.set_cons_succ, List.set_cons_zero, JL, true_or, or_true, and_true, true_and, reduceCtorEq, false_or, or_false, LV.int.injEq, LV.bool.injEq, LV.flt.injEq, LV.sl.injEq, LV.ptr.injEq, eq_self, Int.natCast_add, Int.natCast_one, Int.natCast_zero, Int.ofNat_zero]; rfl
  · intro k hk K hK
    simp only [junkAll, setAll, List.foldl_cons, List.foldl_nil, List.set_cons_succ, List.set_cons_zero]
    by_cases hks : k < i + 1
    · have hs1 := sumI_fit hn hb k (by omega)
      have hs2 := sumI_fit hn hb (k + 1) (by omega)
      rw [sumI_take (by omega)] at hs2
      repeat' (first
        | ((with_reducible refine hK _ _ ?_); clear hK K)
        | ((with_reducible refine hK _ ?_); clear hK K; try simp only [])
        | ((first | (with_reducible show AOp _ _ _ _ _ _ _) | (with_reducible show AQOp _ _ _ _ _ _ _)); simp (disch := first | omega | assumption | rfl | (exact liveO_setS (by assumption)) | (exact PtL.live (by assumption)) | (exact PtL.liveA (by assumption) _) | (simp only [go_sem]; first | done | omega)) only [go_sem, reduceIte, reduceCtorEq, Nat.reduceAdd, Nat.reduceMul, Nat.reduceSub, Nat.reduceLeDiff, Nat.lt_irrefl, Nat.reduceLT, Nat.reduceEqDiff, Nat.reduceBEq, Int.reduceLE, Int.reduceLT, Int.reduceToNat, w64, eq_self, hp.get, h1.lenm, h1.idxm, h1.ldm])
        | (with_reducible refine AW_seq (fun K hK => ?_))
        | (with_reducible refine AW_region tyOk ?_)
        | ((with_reducible refine AW_quiet (id := 6) tyOk ?_ ?_ ?_); (kernel_rfl); (kernel_rfl))
        | (with_reducible refine AOps_cons (fun K hK => ?_))
        | (with_reducible refine AQOps_cons (fun K hK => ?_))
        | ((with_reducible refine AQOps_nil ?_); try simp (disch := first | omega | assumption | rfl | (exact liveO_setS (by assumption)) | (exact PtL.live (by assumption)) | (exact PtL.liveA (by assumption) _) | (simp only [thenA, blockA, go_sem]; first | done | omega)) only [thenA, blockA, go_sem, reduceIte, reduceCtorEq, Nat.reduceAdd, Nat.reduceMul, Nat.reduceSub, Nat.reduceLeDiff, Nat.lt_irrefl, Nat.reduceLT, Nat.reduceEqDiff, Nat.reduceBEq, Int.reduceLE, Int.reduceLT, Int.reduceToNat, w64, eq_self, hp.get, h1.lenm, h1.idxm, h1.ldm])
        | ((with_reducible refine AOps_nil ?_); try simp (disch := first | omega | assumption | rfl | (exact liveO_setS (by assumption)) | (exact PtL.live (by assumption)) | (exact PtL.liveA (by assumption) _) | (simp only [thenA, blockA, go_sem]; first | done | omega)) only [thenA, blockA, go_sem, reduceIte, reduceCtorEq, Nat.reduceAdd, Nat.reduceMul, Nat.reduceSub, Nat.reduceLeDiff, Nat.lt_irrefl, Nat.reduceLT, Nat.reduceEqDiff, Nat.reduceBEq, Int.reduceLE, Int.reduceLT, Int.reduceToNat, w64, eq_self, hp.get, h1.lenm, h1.idxm, h1.ldm])
        | (with_reducible refine AW_block ?_)
        | ((first | (with_reducible refine AW_ret ?_) | (with_reducible refine AW_skip ?_) | (with_reducible refine AW_exit ?_)); try simp only [thenA, blockA, if_true, if_false, reduceIte, Nat.reduceEqDiff, reduceCtorEq])
        | ((with_reducible show AW _ _ (.cond _ _ _) _ _ _); refine AW_cond rfl (fun hg => ?_) (fun hg => ?_) <;> first | (exfalso; simp only [reduceCtorEq] at hg; done) | ((try simp only [Bool.not_eq_true', Bool.not_eq_false', decide_eq_true_eq, decide_eq_false_iff_not] at hg); try (exfalso; omega)))
        | ((with_reducible show _ ∧ _); refine And.intro (fun hg => ?_) (fun hg => ?_) <;> (try simp only [Bool.not_eq_true', Bool.not_eq_false'] at hg) <;> simp only [hg] <;> (try simp only [decide_eq_true_eq, decide_eq_false_iff_not] at hg) <;> (try (exfalso; omega)))
        | (clear hK K)
        | fail)
      refine hK _ _ (k + 1) (by (try simp only); omega) (by (try simp only); omega) ?j9 ?h9
      case h9 => (rfl)
      case j9 => (simp only [junkAll, setAll, List.foldl_cons, List.foldl_nil, List.set_cons_succ, List.set_cons_zero, JL, true_or, or_true, and_true, true_and, reduceCtorEq, false_or, or_false, LV.int.injEq, LV.bool.injEq, LV.flt.injEq, LV.sl.injEq, LV.ptr.injEq, eq_self, Int.natCast_add, Int.natCast_one, Int.natCast_zero, Int.ofNat_zero]; rw [sumI_take (by omega)])
    · have ek : k = i + 1 := by omega
      subst ek
      repeat' (first
        | ((with_reducible refine hK _ _ ?_); clear hK K)
        | ((with_reducible refine hK _ ?_); clear hK K; try simp only [])
        | ((first | (with_reducible show AOp _ _ _ _ _ _ _) | (with_reducible show AQOp _ _ _ _ _ _ _)); simp (disch := first | omega | assumption | rfl | (exact liveO_setS (by assumption)) | (exact PtL.live (by assumption)) | (exact PtL.liveA (by assumption) _) | (simp only [go_sem]; first | done | omega)) only [go_sem, reduceIte, reduceCtorEq, Nat.reduceAdd, Nat.reduceMul, Nat.reduceSub, Nat.reduceLeDiff, Nat.lt_irrefl, Nat.reduceLT, Nat.reduceEqDiff, Nat.reduceBEq, Int.reduceLE, Int.reduceLT, Int.reduceToNat, w64, eq_self, hp.get, h2.lenm, h2.idxm, h2.ldm])
        | (with_reducible refine AW_seq (fun K hK => ?_))
        | (with_reducible refine AW_region tyOk ?_)
        | ((with_reducible refine AW_quiet (id := 6) tyOk ?_ ?_ ?_); (kernel_rfl); (kernel_rfl))
        | (with_reducible refine AOps_cons (fun K hK => ?_))
        | (with_reducible refine AQOps_cons (fun K hK => ?_))
        | ((with_reducible refine AQOps_nil ?_); try simp (disch := first | omega | assumption | rfl | (exact liveO_setS (by assumption)) | (exact PtL.live (by assumption)) | (exact PtL.liveA (by assumption) _) | (simp only [thenA, blockA, go_sem]; first | done | omega)) only [thenA, blockA, go_sem, reduceIte, reduceCtorEq, Nat.reduceAdd, Nat.reduceMul, Nat.reduceSub, Nat.reduceLeDiff, Nat.lt_irrefl, Nat.reduceLT, Nat.reduceEqDiff, Nat.reduceBEq, Int.reduceLE, Int.reduceLT, Int.reduceToNat, w64, eq_self, hp.get, h2.lenm, h2.idxm, h2.ldm])
        | ((with_reducible refine AOps_nil ?_); try simp (disch := first | omega | assumption | rfl | (exact liveO_setS (by assumption)) | (exact PtL.live (by assumption)) | (exact PtL.liveA (by assumption) _) | (simp only [thenA, blockA, go_sem]; first | done | omega)) only [thenA, blockA, go_sem, reduceIte, reduceCtorEq, Nat.reduceAdd, Nat.reduceMul, Nat.reduceSub, Nat.reduceLeDiff, Nat.lt_irrefl, Nat.reduceLT, Nat.reduceEqDiff, Nat.reduceBEq, Int.reduceLE, Int.reduceLT, Int.reduceToNat, w64, eq_self, hp.get, h2.lenm, h2.idxm, h2.ldm])
        | (with_reducible refine AW_block ?_)
        | ((first | (with_reducible refine AW_ret ?_) | (with_reducible refine AW_skip ?_) | (with_reducible refine AW_exit ?_)); try simp only [thenA, blockA, if_true, if_false, reduceIte, Nat.reduceEqDiff, reduceCtorEq])
        | ((with_reducible show AW _ _ (.cond _ _ _) _ _ _); refine AW_cond rfl (fun hg => ?_) (fun hg => ?_) <;> first | (exfalso; simp only [reduceCtorEq] at hg; done) | ((try simp only [Bool.not_eq_true', Bool.not_eq_false', decide_eq_true_eq, decide_eq_false_iff_not] at hg); try (exfalso; omega)))
        | ((with_reducible show _ ∧ _); refine And.intro (fun hg => ?_) (fun hg => ?_) <;> (try simp only [Bool.not_eq_true', Bool.not_eq_false'] at hg) <;> simp only [hg] <;> (try simp only [decide_eq_true_eq, decide_eq_false_iff_not] at hg) <;> (try (exfalso; omega)))
        | (clear hK K)
        | fail)
      all_goals (first | refine EndA_cut hcl (by first | exact Or.inr rfl | exact Or.inl rfl) (by simp only [Try.results105, resA, aresL, go_sem, reduceIte, reduceCtorEq, Nat.reduceAdd, Nat.reduceMul, Nat.reduceSub, Nat.reduceLeDiff, Nat.lt_irrefl, Nat.reduceLT, Nat.reduceEqDiff, Nat.reduceBEq, Int.reduceLE, Int.reduceLT, Int.reduceToNat, w64, eq_self] <;> rfl) rfl ?_ | refine EndA_same (by first | exact Or.inr rfl | exact Or.inl rfl) (by simp only [Try.results105, resA, aresL, go_sem, reduceIte, reduceCtorEq, Nat.reduceAdd, Nat.reduceMul, Nat.reduceSub, Nat.reduceLeDiff, Nat.lt_irrefl, Nat.reduceLT, Nat.reduceEqDiff, Nat.reduceBEq, Int.reduceLE, Int.reduceLT, Int.reduceToNat, w64, eq_self] <;> rfl) ?_)
      exact ⟨rfl, rfl⟩
theorem summB_big {n c : Int} {vs : List (Option Nat)} {gs ss : List Int} (h : summB n c vs gs ss = true) : (∀ x ∈ gs, -1000000000000 ≤ x ∧ x ≤ 1000000000000) ∧ (∀ x ∈ ss, -1000000000000 ≤ x ∧ x ≤ 1000000000000) := by
  obtain ⟨_, h1, _, _, _, _, h2, h3, _⟩ := summB_all h
  exact ⟨fun x hx => by have := h2 x hx; omega, fun x hx => by have := h3 x hx; omega⟩
def roOk (n c : Int) (vs : List (Option Nat)) (gs ss : List Int) (i : Int) : Bool := summB n c vs gs ss && inB i 0 ((vs.length : Nat) - 1)
def roL (gs : List Int) (i : Int) : Int := sumI (gs.take (i.toNat + 1))
set_option maxHeartbeats 2000000 in
theorem iRanksOf_c (n c : Int) (x y z : LV) (vs : List (Option Nat)) (gs ss : List Int) (i : Int) (H : Hp) (h : RdL H x (vs.map (LV.flt .f32))) (h1 : RdL H y (gs.map (LV.int .i64))) (h2 : RdL H z (ss.map (LV.int .i64))) (hn : vs.length ≤ 1048576) (hn1 : gs.length ≤ 1048576) (hn2 : ss.length ≤ 1048576) :
    FunH Try.prog 32 [.agg [.int .i64 n, .int .i64 c, x, y, z], .int .i64 i] H fun r' H' => r' = .tup [.int .i64 (if roOk n c vs gs ss i then roL gs i else 0), .int .i64 (if roOk n c vs gs ss i then roL gs i + ix ss i.toNat else 0), .bool (roOk n c vs gs ss i)] ∧ H' = H := by
  cases e : roOk n c vs gs ss i
  · cases e1 : summB n c vs gs ss
    · (refine FunH_body tyOk Try.func32 rfl (by kernel_rfl) Try.ntmps32 (fun hcl hbd => ?_); simp only [List.length_cons, List.length_nil, Nat.reduceAdd, Nat.reduceSub, List.replicate, List.cons_append, List.nil_append])
      repeat' (first
        | ((with_reducible refine hK _ _ ?_); clear hK K)
        | ((first | (with_reducible show AOp _ _ _ _ _ _ _)); simp (disch := first | omega | assumption | rfl | (exact liveO_setS (by assumption)) | (exact PtL.live (by assumption)) | (exact PtL.liveA (by assumption) _) | (simp only [go_sem]; first | done | omega)) only [go_sem, reduceIte, reduceCtorEq, Nat.reduceAdd, Nat.reduceMul, Nat.reduceSub, Nat.reduceLeDiff, Nat.lt_irrefl, Nat.reduceLT, Nat.reduceEqDiff, Nat.reduceBEq, Int.reduceLE, Int.reduceLT, Int.reduceToNat, w64, eq_self, h.isCell, h1.isCell, h2.isCell, h.lenm, h1.lenm, h2.lenm, e1])
        | (with_reducible refine AW_seq (fun K hK => ?_))
        | (with_reducible refine AW_region tyOk ?_)
        | (with_reducible refine AOps_cons (fun K hK => ?_))
        | ((with_reducible refine AOps_nil ?_); try simp (disch := first | omega | assumption | rfl | (exact liveO_setS (by assumption)) | (exact PtL.live (by assumption)) | (exact PtL.liveA (by assumption) _) | (simp only [thenA, blockA, go_sem]; first | done | omega)) only [thenA, blockA, go_sem, reduceIte, reduceCtorEq, Nat.reduceAdd, Nat.reduceMul, Nat.reduceSub, Nat.reduceLeDiff, Nat.lt_irrefl, Nat.reduceLT, Nat.reduceEqDiff, Nat.reduceBEq, Int.reduceLE, Int.reduceLT, Int.reduceToNat, w64, eq_self, h.isCell, h1.isCell, h2.isCell, h.lenm, h1.lenm, h2.lenm, e1])
        | (with_reducible refine AW_block ?_)
        | ((first | (with_reducible refine AW_ret ?_) | (with_reducible refine AW_skip ?_) | (with_reducible refine AW_exit ?_)); try simp only [thenA, blockA, if_true, if_false, reduceIte, Nat.reduceEqDiff, reduceCtorEq])
        | ((with_reducible show AW _ _ (.cond _ _ _) _ _ _); refine AW_cond rfl (fun hg => ?_) (fun hg => ?_) <;> first | (exfalso; simp only [reduceCtorEq] at hg; done) | ((try simp only [Bool.not_eq_true', Bool.not_eq_false', decide_eq_true_eq, decide_eq_false_iff_not] at hg); try (exfalso; omega)))
        | ((with_reducible show _ ∧ _); refine And.intro (fun hg => ?_) (fun hg => ?_) <;> (try simp only [Bool.not_eq_true', Bool.not_eq_false'] at hg) <;> simp only [hg] <;> (try simp only [decide_eq_true_eq, decide_eq_false_iff_not] at hg) <;> (try (exfalso; omega)))
        | ((with_reducible apply FunH_intro); (first | exact iValidSummary_c _ _ _ _ _ _ _ _ _ (by first | assumption | exact RdL.app (by assumption) _ | exact RdL_hj rfl (by simp) | exact RdL_h0 rfl (by simp) | exact RdL_nil | exact RdL_emp) (by first | assumption | exact RdL.app (by assumption) _ | exact RdL_hj rfl (by simp) | exact RdL_h0 rfl (by simp) | exact RdL_nil | exact RdL_emp) (by first | assumption | exact RdL.app (by assumption) _ | exact RdL_hj rfl (by simp) | exact RdL_h0 rfl (by simp) | exact RdL_nil | exact RdL_emp) (by first | assumption | omega | (simp; omega) | (simp; done)) (by first | assumption | omega | (simp; omega) | (simp; done)) (by first | assumption | omega | (simp; omega) | (simp; done)) | exact within_c _ _ _ _ | exact ranks_c _ _ _ _ _ _ _ _ _ (by first | rfl | assumption | omega | (simp; done)) (by first | assumption | exact RdL.app (by assumption) _ | exact RdL_hj rfl (by simp) | exact RdL_h0 rfl (by simp) | exact RdL_nil | exact RdL_emp) (by first | assumption | exact RdL.app (by assumption) _ | exact RdL_hj rfl (by simp) | exact RdL_h0 rfl (by simp) | exact RdL_nil | exact RdL_emp) (by first | assumption | omega | (simp; omega) | (simp; done)) (by first | assumption | omega | (simp; omega) | (simp; done)) (by first | assumption | omega | (simp; omega) | (simp; done)) (by first | assumption | (simp; done)) (by first | assumption | (simp; done))))
        | (clear hK K)
        | fail)
      all_goals (first | refine EndA_cut hcl (by first | exact Or.inr rfl | exact Or.inl rfl) (by simp only [Try.results32, resA, aresL, go_sem, reduceIte, reduceCtorEq, Nat.reduceAdd, Nat.reduceMul, Nat.reduceSub, Nat.reduceLeDiff, Nat.lt_irrefl, Nat.reduceLT, Nat.reduceEqDiff, Nat.reduceBEq, Int.reduceLE, Int.reduceLT, Int.reduceToNat, w64, eq_self] <;> rfl) rfl ?_ | refine EndA_same (by first | exact Or.inr rfl | exact Or.inl rfl) (by simp only [Try.results32, resA, aresL, go_sem, reduceIte, reduceCtorEq, Nat.reduceAdd, Nat.reduceMul, Nat.reduceSub, Nat.reduceLeDiff, Nat.lt_irrefl, Nat.reduceLT, Nat.reduceEqDiff, Nat.reduceBEq, Int.reduceLE, Int.reduceLT, Int.reduceToNat, w64, eq_self] <;> rfl) ?_)
      all_goals exact ⟨rfl, rfl⟩
    · have e2 : inB i 0 ((vs.length : Nat) - 1) = false := by unfold roOk at e; rw [e1] at e; simpa using e
      (refine FunH_body tyOk Try.func32 rfl (by kernel_rfl) Try.ntmps32 (fun hcl hbd => ?_); simp only [List.length_cons, List.length_nil, Nat.reduceAdd, Nat.reduceSub, List.replicate, List.cons_append, List.nil_append])
      repeat' (first
        | ((with_reducible refine hK _ _ ?_); clear hK K)
        | ((first | (with_reducible show AOp _ _ _ _ _ _ _)); simp (disch := first | omega | assumption | rfl | (exact liveO_setS (by assumption)) | (exact PtL.live (by assumption)) | (exact PtL.liveA (by assumption) _) | (simp only [go_sem]; first | done | omega)) only [go_sem, reduceIte, reduceCtorEq, Nat.reduceAdd, Nat.reduceMul, Nat.reduceSub, Nat.reduceLeDiff, Nat.lt_irrefl, Nat.reduceLT, Nat.reduceEqDiff, Nat.reduceBEq, Int.reduceLE, Int.reduceLT, Int.reduceToNat, w64, eq_self, h.isCell, h1.isCell, h2.isCell, h.lenm, h1.lenm, h2.lenm, e1, e2])
        | (with_reducible refine AW_seq (fun K hK => ?_))
        | (with_reducible refine AW_region tyOk ?_)
        | (with_reducible refine AOps_cons (fun K hK => ?_))
        | ((with_reducible refine AOps_nil ?_); try simp (disch := first | omega | assumption | rfl | (exact liveO_setS (by assumption)) | (exact PtL.live (by assumption)) | (exact PtL.liveA (by assumption) _) | (simp only [thenA, blockA, go_sem]; first | done | omega)) only [thenA, blockA, go_sem, reduceIte, reduceCtorEq, Nat.reduceAdd, Nat.reduceMul, Nat.reduceSub, Nat.reduceLeDiff, Nat.lt_irrefl, Nat.reduceLT, Nat.reduceEqDiff, Nat.reduceBEq, Int.reduceLE, Int.reduceLT, Int.reduceToNat, w64, eq_self, h.isCell, h1.isCell, h2.isCell, h.lenm, h1.lenm, h2.lenm, e1, e2])
        | (with_reducible refine AW_block ?_)
        | ((first | (with_reducible refine AW_ret ?_) | (with_reducible refine AW_skip ?_) | (with_reducible refine AW_exit ?_)); try simp only [thenA, blockA, if_true, if_false, reduceIte, Nat.reduceEqDiff, reduceCtorEq])
        | ((with_reducible show AW _ _ (.cond _ _ _) _ _ _); refine AW_cond rfl (fun hg => ?_) (fun hg => ?_) <;> first | (exfalso; simp only [reduceCtorEq] at hg; done) | ((try simp only [Bool.not_eq_true', Bool.not_eq_false', decide_eq_true_eq, decide_eq_false_iff_not] at hg); try (exfalso; omega)))
        | ((with_reducible show _ ∧ _); refine And.intro (fun hg => ?_) (fun hg => ?_) <;> (try simp only [Bool.not_eq_true', Bool.not_eq_false'] at hg) <;> simp only [hg] <;> (try simp only [decide_eq_true_eq, decide_eq_false_iff_not] at hg) <;> (try (exfalso; omega)))
        | ((with_reducible apply FunH_intro); (first | exact iValidSummary_c _ _ _ _ _ _ _ _ _ (by first | assumption | exact RdL.app (by assumption) _ | exact RdL_hj rfl (by simp) | exact RdL_h0 rfl (by simp) | exact RdL_nil | exact RdL_emp) (by first | assumption | exact RdL.app (by assumption) _ | exact RdL_hj rfl (by simp) | exact RdL_h0 rfl (by simp) | exact RdL_nil | exact RdL_emp) (by first | assumption | exact RdL.app (by assumption) _ | exact RdL_hj rfl (by simp) | exact RdL_h0 rfl (by simp) | exact RdL_nil | exact RdL_emp) (by first | assumption | omega | (simp; omega) | (simp; done)) (by first | assumption | omega | (simp; omega) | (simp; done)) (by first | assumption | omega | (simp; omega) | (simp; done)) | exact within_c _ _ _ _ | exact ranks_c _ _ _ _ _ _ _ _ _ (by first | rfl | assumption | omega | (simp; done)) (by first | assumption | exact RdL.app (by assumption) _ | exact RdL_hj rfl (by simp) | exact RdL_h0 rfl (by simp) | exact RdL_nil | exact RdL_emp) (by first | assumption | exact RdL.app (by assumption) _ | exact RdL_hj rfl (by simp) | exact RdL_h0 rfl (by simp) | exact RdL_nil | exact RdL_emp) (by first | assumption | omega | (simp; omega) | (simp; done)) (by first | assumption | omega | (simp; omega) | (simp; done)) (by first | assumption | omega | (simp; omega) | (simp; done)) (by first | assumption | (simp; done)) (by first | assumption | (simp; done))))
        | (clear hK K)
        | fail)
      all_goals (first | refine EndA_cut hcl (by first | exact Or.inr rfl | exact Or.inl rfl) (by simp only [Try.results32, resA, aresL, go_sem, reduceIte, reduceCtorEq, Nat.reduceAdd, Nat.reduceMul, Nat.reduceSub, Nat.reduceLeDiff, Nat.lt_irrefl, Nat.reduceLT, Nat.reduceEqDiff, Nat.reduceBEq, Int.reduceLE, Int.reduceLT, Int.reduceToNat, w64, eq_self] <;> rfl) rfl ?_ | refine EndA_same (by first | exact Or.inr rfl | exact Or.inl rfl) (by simp only [Try.results32, resA, aresL, go_sem, reduceIte, reduceCtorEq, Nat.reduceAdd, Nat.reduceMul, Nat.reduceSub, Nat.reduceLeDiff, Nat.lt_irrefl, Nat.reduceLT, Nat.reduceEqDiff, Nat.reduceBEq, Int.reduceLE, Int.reduceLT, Int.reduceToNat, w64, eq_self] <;> rfl) ?_)
      all_goals exact ⟨rfl, rfl⟩
  · have e1 : summB n c vs gs ss = true ∧ inB i 0 ((vs.length : Nat) - 1) = true := by unfold roOk at e; simpa using e
    obtain ⟨e1, e2⟩ := e1
    obtain ⟨a1, a2, a3, a4, a5, a6, a7, a8, a9, a10⟩ := summB_all e1
    obtain ⟨b1, b2⟩ := summB_big e1
    have e3 : 0 ≤ i ∧ i ≤ (vs.length : Nat) - 1 := by simpa [inB] using e2
    obtain ⟨j, rfl⟩ : ∃ j : Nat, i = (j : Int) := ⟨i.toNat, by omega⟩
    have hxc := h.isCell
    unfold roL
    simp only [Int.toNat_natCast, if_true]
    (refine FunH_body tyOk Try.func32 rfl (by kernel_rfl) Try.ntmps32 (fun hcl hbd => ?_); simp only [List.length_cons, List.length_nil, Nat.reduceAdd, Nat.reduceSub, List.replicate, List.cons_append, List.nil_append])
    repeat' (first
      | ((with_reducible refine hK _ _ ?_); clear hK K)
      | ((first | (with_reducible show AOp _ _ _ _ _ _ _)); simp (disch := first | omega | assumption | rfl | (exact liveO_setS (by assumption)) | (exact PtL.live (by assumption)) | (exact PtL.liveA (by assumption) _) | (simp only [go_sem]; first | done | omega)) only [go_sem, reduceIte, reduceCtorEq, Nat.reduceAdd, Nat.reduceMul, Nat.reduceSub, Nat.reduceLeDiff, Nat.lt_irrefl, Nat.reduceLT, Nat.reduceEqDiff, Nat.reduceBEq, Int.reduceLE, Int.reduceLT, Int.reduceToNat, w64, eq_self, h.isCell, h1.isCell, h2.isCell, h.lenm, h1.lenm, h2.lenm, e1, e2])
      | (with_reducible refine AW_seq (fun K hK => ?_))
      | (with_reducible refine AW_region tyOk ?_)
      | (with_reducible refine AOps_cons (fun K hK => ?_))
      | ((with_reducible refine AOps_nil ?_); try simp (disch := first | omega | assumption | rfl | (exact liveO_setS (by assumption)) | (exact PtL.live (by assumption)) | (exact PtL.liveA (by assumption) _) | (simp only [thenA, blockA, go_sem]; first | done | omega)) only [thenA, blockA, go_sem, reduceIte, reduceCtorEq, Nat.reduceAdd, Nat.reduceMul, Nat.reduceSub, Nat.reduceLeDiff, Nat.lt_irrefl, Nat.reduceLT, Nat.reduceEqDiff, Nat.reduceBEq, Int.reduceLE, Int.reduceLT, Int.reduceToNat, w64, eq_self, h.isCell, h1.isCell, h2.isCell, h.lenm, h1.lenm, h2.lenm, e1, e2])
      | (with_reducible refine AW_block ?_)
      | ((first | (with_reducible refine AW_ret ?_) | (with_reducible refine AW_skip ?_) | (with_reducible refine AW_exit ?_)); try simp only [thenA, blockA, if_true, if_false, reduceIte, Nat.reduceEqDiff, reduceCtorEq])
      | ((with_reducible show AW _ _ (.cond _ _ _) _ _ _); refine AW_cond rfl (fun hg => ?_) (fun hg => ?_) <;> first | (exfalso; simp only [reduceCtorEq] at hg; done) | ((try simp only [Bool.not_eq_true', Bool.not_eq_false', decide_eq_true_eq, decide_eq_false_iff_not] at hg); try (exfalso; omega)))
      | ((with_reducible show _ ∧ _); refine And.intro (fun hg => ?_) (fun hg => ?_) <;> (try simp only [Bool.not_eq_true', Bool.not_eq_false'] at hg) <;> simp only [hg] <;> (try simp only [decide_eq_true_eq, decide_eq_false_iff_not] at hg) <;> (try (exfalso; omega)))
      | ((with_reducible apply FunH_intro); (first | exact iValidSummary_c _ _ _ _ _ _ _ _ _ (by first | assumption | exact RdL.app (by assumption) _ | exact RdL_hj rfl (by simp) | exact RdL_h0 rfl (by simp) | exact RdL_nil | exact RdL_emp) (by first | assumption | exact RdL.app (by assumption) _ | exact RdL_hj rfl (by simp) | exact RdL_h0 rfl (by simp) | exact RdL_nil | exact RdL_emp) (by first | assumption | exact RdL.app (by assumption) _ | exact RdL_hj rfl (by simp) | exact RdL_h0 rfl (by simp) | exact RdL_nil | exact RdL_emp) (by first | assumption | omega | (simp; omega) | (simp; done)) (by first | assumption | omega | (simp; omega) | (simp; done)) (by first | assumption | omega | (simp; omega) | (simp; done)) | exact within_c _ _ _ _ | exact ranks_c _ _ _ _ _ _ _ _ _ (by first | rfl | assumption | omega | (simp; done)) (by first | assumption | exact RdL.app (by assumption) _ | exact RdL_hj rfl (by simp) | exact RdL_h0 rfl (by simp) | exact RdL_nil | exact RdL_emp) (by first | assumption | exact RdL.app (by assumption) _ | exact RdL_hj rfl (by simp) | exact RdL_h0 rfl (by simp) | exact RdL_nil | exact RdL_emp) (by first | assumption | omega | (simp; omega) | (simp; done)) (by first | assumption | omega | (simp; omega) | (simp; done)) (by first | assumption | omega | (simp; omega) | (simp; done)) (by first | assumption | (simp; done)) (by first | assumption | (simp; done))))
      | (clear hK K)
      | fail)
    all_goals (first | refine EndA_cut hcl (by first | exact Or.inr rfl | exact Or.inl rfl) (by simp only [Try.results32, resA, aresL, go_sem, reduceIte, reduceCtorEq, Nat.reduceAdd, Nat.reduceMul, Nat.reduceSub, Nat.reduceLeDiff, Nat.lt_irrefl, Nat.reduceLT, Nat.reduceEqDiff, Nat.reduceBEq, Int.reduceLE, Int.reduceLT, Int.reduceToNat, w64, eq_self] <;> rfl) rfl ?_ | refine EndA_same (by first | exact Or.inr rfl | exact Or.inl rfl) (by simp only [Try.results32, resA, aresL, go_sem, reduceIte, reduceCtorEq, Nat.reduceAdd, Nat.reduceMul, Nat.reduceSub, Nat.reduceLeDiff, Nat.lt_irrefl, Nat.reduceLT, Nat.reduceEqDiff, Nat.reduceBEq, Int.reduceLE, Int.reduceLT, Int.reduceToNat, w64, eq_self] <;> rfl) ?_)
    all_goals exact ⟨rfl, rfl⟩
set_option maxHeartbeats 2000000 in
theorem sRanksOf_c (n c : Int) (x y z : LV) (vs : List (Option Nat)) (gs ss : List Int) (i : Int) (H : Hp) (h : RdL H x (vs.map (LV.flt .f32))) (h1 : RdL H y (gs.map (LV.int .i64))) (h2 : RdL H z (ss.map (LV.int .i64))) (hn : vs.length ≤ 1048576) (hn1 : gs.length ≤ 1048576) (hn2 : ss.length ≤ 1048576) :
    FunH Try.prog 30 [.agg [.int .i64 n, .int .i64 c, x, y, z], .int .i64 i] H fun r' H' => r' = .tup [.int .i64 (if roOk n c vs gs ss i then roL gs i else 0), .int .i64 (if roOk n c vs gs ss i then roL gs i + ix ss i.toNat else 0), .bool (roOk n c vs gs ss i)] ∧ H' = H := by
  cases e : roOk n c vs gs ss i
  · cases e1 : summB n c vs gs ss
    · (refine FunH_body tyOk Try.func30 rfl (by kernel_rfl) Try.ntmps30 (fun hcl hbd => ?_); simp only [List.length_cons, List.length_nil, Nat.reduceAdd, Nat.reduceSub, List.replicate, List.cons_append, List.nil_append])
      repeat' (first
        | ((with_reducible refine hK _ _ ?_); clear hK K)
        | ((first | (with_reducible show AOp _ _ _ _ _ _ _)); simp (disch := first | omega | assumption | rfl | (exact liveO_setS (by assumption)) | (exact PtL.live (by assumption)) | (exact PtL.liveA (by assumption) _) | (simp only [go_sem]; first | done | omega)) only [go_sem, reduceIte, reduceCtorEq, Nat.reduceAdd, Nat.reduceMul, Nat.reduceSub, Nat.reduceLeDiff, Nat.lt_irrefl, Nat.reduceLT, Nat.reduceEqDiff, Nat.reduceBEq, Int.reduceLE, Int.reduceLT, Int.reduceToNat, w64, eq_self, h.isCell, h1.isCell, h2.isCell, h.lenm, h1.lenm, h2.lenm, e1])
        | (with_reducible refine AW_seq (fun K hK => ?_))
        | (with_reducible refine AW_region tyOk ?_)
        | (with_reducible refine AOps_cons (fun K hK => ?_))
        | ((with_reducible refine AOps_nil ?_); try simp (disch := first | omega | assumption | rfl | (exact liveO_setS (by assumption)) | (exact PtL.live (by assumption)) | (exact PtL.liveA (by assumption) _) | (simp only [thenA, blockA, go_sem]; first | done | omega)) only [thenA, blockA, go_sem, reduceIte, reduceCtorEq, Nat.reduceAdd, Nat.reduceMul, Nat.reduceSub, Nat.reduceLeDiff, Nat.lt_irrefl, Nat.reduceLT, Nat.reduceEqDiff, Nat.reduceBEq, Int.reduceLE, Int.reduceLT, Int.reduceToNat, w64, eq_self, h.isCell, h1.isCell, h2.isCell, h.lenm, h1.lenm, h2.lenm, e1])
        | (with_reducible refine AW_block ?_)
        | ((first | (with_reducible refine AW_ret ?_) | (with_reducible refine AW_skip ?_) | (with_reducible refine AW_exit ?_)); try simp only [thenA, blockA, if_true, if_false, reduceIte, Nat.reduceEqDiff, reduceCtorEq])
        | ((with_reducible show AW _ _ (.cond _ _ _) _ _ _); refine AW_cond rfl (fun hg => ?_) (fun hg => ?_) <;> first | (exfalso; simp only [reduceCtorEq] at hg; done) | ((try simp only [Bool.not_eq_true', Bool.not_eq_false', decide_eq_true_eq, decide_eq_false_iff_not] at hg); try (exfalso; omega)))
        | ((with_reducible show _ ∧ _); refine And.intro (fun hg => ?_) (fun hg => ?_) <;> (try simp only [Bool.not_eq_true', Bool.not_eq_false'] at hg) <;> simp only [hg] <;> (try simp only [decide_eq_true_eq, decide_eq_false_iff_not] at hg) <;> (try (exfalso; omega)))
        | ((with_reducible apply FunH_intro); (first | exact l00In_c _ _ _ _ | exact l05Is_c _ _ _ _ _ _ _ _ _ _ _ (by first | assumption | exact PtL.app (by assumption) _ | exact PtL_h0 rfl | exact PtL_hj rfl) (by first | assumption | exact RdL.app (by assumption) _ | exact RdL_hj rfl (by simp) | exact RdL_h0 rfl (by simp) | exact RdL_nil | exact RdL_emp) (by first | assumption | exact RdL.app (by assumption) _ | exact RdL_hj rfl (by simp) | exact RdL_h0 rfl (by simp) | exact RdL_nil | exact RdL_emp) (by first | assumption | exact RdL.app (by assumption) _ | exact RdL_hj rfl (by simp) | exact RdL_h0 rfl (by simp) | exact RdL_nil | exact RdL_emp) (by first | assumption | omega | (simp; omega) | (simp; done)) (by first | assumption | omega | (simp; omega) | (simp; done)) (by first | assumption | omega | (simp; omega) | (simp; done)) | exact l05Ranks_c _ _ _ _ _ _ _ _ _ _ _ (by first | assumption | exact PtL.app (by assumption) _ | exact PtL_h0 rfl | exact PtL_hj rfl) (by first | assumption | exact RdL.app (by assumption) _ | exact RdL_hj rfl (by simp) | exact RdL_h0 rfl (by simp) | exact RdL_nil | exact RdL_emp) (by first | assumption | exact RdL.app (by assumption) _ | exact RdL_hj rfl (by simp) | exact RdL_h0 rfl (by simp) | exact RdL_nil | exact RdL_emp) (by first | assumption | omega | (simp; omega) | (simp; done)) (by first | assumption | omega | (simp; omega) | (simp; done)) (by first | assumption | omega | (simp; omega) | (simp; done)) (by first | assumption | (simp; done)) (by first | assumption | (simp; done))))
        | (clear hK K)
        | fail)
      all_goals (first | refine EndA_cut hcl (by first | exact Or.inr rfl | exact Or.inl rfl) (by simp only [Try.results30, resA, aresL, go_sem, reduceIte, reduceCtorEq, Nat.reduceAdd, Nat.reduceMul, Nat.reduceSub, Nat.reduceLeDiff, Nat.lt_irrefl, Nat.reduceLT, Nat.reduceEqDiff, Nat.reduceBEq, Int.reduceLE, Int.reduceLT, Int.reduceToNat, w64, eq_self] <;> rfl) rfl ?_ | refine EndA_same (by first | exact Or.inr rfl | exact Or.inl rfl) (by simp only [Try.results30, resA, aresL, go_sem, reduceIte, reduceCtorEq, Nat.reduceAdd, Nat.reduceMul, Nat.reduceSub, Nat.reduceLeDiff, Nat.lt_irrefl, Nat.reduceLT, Nat.reduceEqDiff, Nat.reduceBEq, Int.reduceLE, Int.reduceLT, Int.reduceToNat, w64, eq_self] <;> rfl) ?_)
      all_goals exact ⟨rfl, rfl⟩
    · have e2 : inB i 0 ((vs.length : Nat) - 1) = false := by unfold roOk at e; rw [e1] at e; simpa using e
      (refine FunH_body tyOk Try.func30 rfl (by kernel_rfl) Try.ntmps30 (fun hcl hbd => ?_); simp only [List.length_cons, List.length_nil, Nat.reduceAdd, Nat.reduceSub, List.replicate, List.cons_append, List.nil_append])
      repeat' (first
        | ((with_reducible refine hK _ _ ?_); clear hK K)
        | ((first | (with_reducible show AOp _ _ _ _ _ _ _)); simp (disch := first | omega | assumption | rfl | (exact liveO_setS (by assumption)) | (exact PtL.live (by assumption)) | (exact PtL.liveA (by assumption) _) | (simp only [go_sem]; first | done | omega)) only [go_sem, reduceIte, reduceCtorEq, Nat.reduceAdd, Nat.reduceMul, Nat.reduceSub, Nat.reduceLeDiff, Nat.lt_irrefl, Nat.reduceLT, Nat.reduceEqDiff, Nat.reduceBEq, Int.reduceLE, Int.reduceLT, Int.reduceToNat, w64, eq_self, h.isCell, h1.isCell, h2.isCell, h.lenm, h1.lenm, h2.lenm, e1, e2])
        | (with_reducible refine AW_seq (fun K hK => ?_))
        | (with_reducible refine AW_region tyOk ?_)
        | (with_reducible refine AOps_cons (fun K hK => ?_))
        | ((with_reducible refine AOps_nil ?_); try simp (disch := first | omega | assumption | rfl | (exact liveO_setS (by assumption)) | (exact PtL.live (by assumption)) | (exact PtL.liveA (by assumption) _) | (simp only [thenA, blockA, go_sem]; first | done | omega)) only [thenA, blockA, go_sem, reduceIte, reduceCtorEq, Nat.reduceAdd, Nat.reduceMul, Nat.reduceSub, Nat.reduceLeDiff, Nat.lt_irrefl, Nat.reduceLT, Nat.reduceEqDiff, Nat.reduceBEq, Int.reduceLE, Int.reduceLT, Int.reduceToNat, w64, eq_self, h.isCell, h1.isCell, h2.isCell, h.lenm, h1.lenm, h2.lenm, e1, e2])
        | (with_reducible refine AW_block ?_)
        | ((first | (with_reducible refine AW_ret ?_) | (with_reducible refine AW_skip ?_) | (with_reducible refine AW_exit ?_)); try simp only [thenA, blockA, if_true, if_false, reduceIte, Nat.reduceEqDiff, reduceCtorEq])
        | ((with_reducible show AW _ _ (.cond _ _ _) _ _ _); refine AW_cond rfl (fun hg => ?_) (fun hg => ?_) <;> first | (exfalso; simp only [reduceCtorEq] at hg; done) | ((try simp only [Bool.not_eq_true', Bool.not_eq_false', decide_eq_true_eq, decide_eq_false_iff_not] at hg); try (exfalso; omega)))
        | ((with_reducible show _ ∧ _); refine And.intro (fun hg => ?_) (fun hg => ?_) <;> (try simp only [Bool.not_eq_true', Bool.not_eq_false'] at hg) <;> simp only [hg] <;> (try simp only [decide_eq_true_eq, decide_eq_false_iff_not] at hg) <;> (try (exfalso; omega)))
        | ((with_reducible apply FunH_intro); (first | exact l00In_c _ _ _ _ | exact l05Is_c _ _ _ _ _ _ _ _ _ _ _ (by first | assumption | exact PtL.app (by assumption) _ | exact PtL_h0 rfl | exact PtL_hj rfl) (by first | assumption | exact RdL.app (by assumption) _ | exact RdL_hj rfl (by simp) | exact RdL_h0 rfl (by simp) | exact RdL_nil | exact RdL_emp) (by first | assumption | exact RdL.app (by assumption) _ | exact RdL_hj rfl (by simp) | exact RdL_h0 rfl (by simp) | exact RdL_nil | exact RdL_emp) (by first | assumption | exact RdL.app (by assumption) _ | exact RdL_hj rfl (by simp) | exact RdL_h0 rfl (by simp) | exact RdL_nil | exact RdL_emp) (by first | assumption | omega | (simp; omega) | (simp; done)) (by first | assumption | omega | (simp; omega) | (simp; done)) (by first | assumption | omega | (simp; omega) | (simp; done)) | exact l05Ranks_c _ _ _ _ _ _ _ _ _ _ _ (by first | assumption | exact PtL.app (by assumption) _ | exact PtL_h0 rfl | exact PtL_hj rfl) (by first | assumption | exact RdL.app (by assumption) _ | exact RdL_hj rfl (by simp) | exact RdL_h0 rfl (by simp) | exact RdL_nil | exact RdL_emp) (by first | assumption | exact RdL.app (by assumption) _ | exact RdL_hj rfl (by simp) | exact RdL_h0 rfl (by simp) | exact RdL_nil | exact RdL_emp) (by first | assumption | omega | (simp; omega) | (simp; done)) (by first | assumption | omega | (simp; omega) | (simp; done)) (by first | assumption | omega | (simp; omega) | (simp; done)) (by first | assumption | (simp; done)) (by first | assumption | (simp; done))))
        | (clear hK K)
        | fail)
      all_goals (first | refine EndA_cut hcl (by first | exact Or.inr rfl | exact Or.inl rfl) (by simp only [Try.results30, resA, aresL, go_sem, reduceIte, reduceCtorEq, Nat.reduceAdd, Nat.reduceMul, Nat.reduceSub, Nat.reduceLeDiff, Nat.lt_irrefl, Nat.reduceLT, Nat.reduceEqDiff, Nat.reduceBEq, Int.reduceLE, Int.reduceLT, Int.reduceToNat, w64, eq_self] <;> rfl) rfl ?_ | refine EndA_same (by first | exact Or.inr rfl | exact Or.inl rfl) (by simp only [Try.results30, resA, aresL, go_sem, reduceIte, reduceCtorEq, Nat.reduceAdd, Nat.reduceMul, Nat.reduceSub, Nat.reduceLeDiff, Nat.lt_irrefl, Nat.reduceLT, Nat.reduceEqDiff, Nat.reduceBEq, Int.reduceLE, Int.reduceLT, Int.reduceToNat, w64, eq_self] <;> rfl) ?_)
      all_goals exact ⟨rfl, rfl⟩
  · have e1 : summB n c vs gs ss = true ∧ inB i 0 ((vs.length : Nat) - 1) = true := by unfold roOk at e; simpa using e
    obtain ⟨e1, e2⟩ := e1
    obtain ⟨a1, a2, a3, a4, a5, a6, a7, a8, a9, a10⟩ := summB_all e1
    obtain ⟨b1, b2⟩ := summB_big e1
    have e3 : 0 ≤ i ∧ i ≤ (vs.length : Nat) - 1 := by simpa [inB] using e2
    obtain ⟨j, rfl⟩ : ∃ j : Nat, i = (j : Int) := ⟨i.toNat, by omega⟩
    have hxc := h.isCell
    unfold roL
    simp only [Int.toNat_natCast, if_true]
    (refine FunH_body tyOk Try.func30 rfl (by kernel_rfl) Try.ntmps30 (fun hcl hbd => ?_); simp only [List.length_cons, List.length_nil, Nat.reduceAdd, Nat.reduceSub, List.replicate, List.cons_append, List.nil_append])
    repeat' (first
      | ((with_reducible refine hK _ _ ?_); clear hK K)
      | ((first | (with_reducible show AOp _ _ _ _ _ _ _)); simp (disch := first | omega | assumption | rfl | (exact liveO_setS (by assumption)) | (exact PtL.live (by assumption)) | (exact PtL.liveA (by assumption) _) | (simp only [go_sem]; first | done | omega)) only [go_sem, reduceIte, reduceCtorEq, Nat.reduceAdd, Nat.reduceMul, Nat.reduceSub, Nat.reduceLeDiff, Nat.lt_irrefl, Nat.reduceLT, Nat.reduceEqDiff, Nat.reduceBEq, Int.reduceLE, Int.reduceLT, Int.reduceToNat, w64, eq_self, h.isCell, h1.isCell, h2.isCell, h.lenm, h1.lenm, h2.lenm, e1, e2])
      | (with_reducible refine AW_seq (fun K hK => ?_))
      | (with_reducible refine AW_region tyOk ?_)
      | (with_reducible refine AOps_cons (fun K hK => ?_))
      | ((with_reducible refine AOps_nil ?_); try simp (disch := first | omega | assumption | rfl | (exact liveO_setS (by assumption)) | (exact PtL.live (by assumption)) | (exact PtL.liveA (by assumption) _) | (simp only [thenA, blockA, go_sem]; first | done | omega)) only [thenA, blockA, go_sem, reduceIte, reduceCtorEq, Nat.reduceAdd, Nat.reduceMul, Nat.reduceSub, Nat.reduceLeDiff, Nat.lt_irrefl, Nat.reduceLT, Nat.reduceEqDiff, Nat.reduceBEq, Int.reduceLE, Int.reduceLT, Int.reduceToNat, w64, eq_self, h.isCell, h1.isCell, h2.isCell, h.lenm, h1.lenm, h2.lenm, e1, e2])
      | (with_reducible refine AW_block ?_)
      | ((first | (with_reducible refine AW_ret ?_) | (with_reducible refine AW_skip ?_) | (with_reducible refine AW_exit ?_)); try simp only [thenA, blockA, if_true, if_false, reduceIte, Nat.reduceEqDiff, reduceCtorEq])
      | ((with_reducible show AW _ _ (.cond _ _ _) _ _ _); refine AW_cond rfl (fun hg => ?_) (fun hg => ?_) <;> first | (exfalso; simp only [reduceCtorEq] at hg; done) | ((try simp only [Bool.not_eq_true', Bool.not_eq_false', decide_eq_true_eq, decide_eq_false_iff_not] at hg); try (exfalso; omega)))
      | ((with_reducible show _ ∧ _); refine And.intro (fun hg => ?_) (fun hg => ?_) <;> (try simp only [Bool.not_eq_true', Bool.not_eq_false'] at hg) <;> simp only [hg] <;> (try simp only [decide_eq_true_eq, decide_eq_false_iff_not] at hg) <;> (try (exfalso; omega)))
      | ((with_reducible apply FunH_intro); (first | exact l00In_c _ _ _ _ | exact l05Is_c _ _ _ _ _ _ _ _ _ _ _ (by first | assumption | exact PtL.app (by assumption) _ | exact PtL_h0 rfl | exact PtL_hj rfl) (by first | assumption | exact RdL.app (by assumption) _ | exact RdL_hj rfl (by simp) | exact RdL_h0 rfl (by simp) | exact RdL_nil | exact RdL_emp) (by first | assumption | exact RdL.app (by assumption) _ | exact RdL_hj rfl (by simp) | exact RdL_h0 rfl (by simp) | exact RdL_nil | exact RdL_emp) (by first | assumption | exact RdL.app (by assumption) _ | exact RdL_hj rfl (by simp) | exact RdL_h0 rfl (by simp) | exact RdL_nil | exact RdL_emp) (by first | assumption | omega | (simp; omega) | (simp; done)) (by first | assumption | omega | (simp; omega) | (simp; done)) (by first | assumption | omega | (simp; omega) | (simp; done)) | exact l05Ranks_c _ _ _ _ _ _ _ _ _ _ _ (by first | assumption | exact PtL.app (by assumption) _ | exact PtL_h0 rfl | exact PtL_hj rfl) (by first | assumption | exact RdL.app (by assumption) _ | exact RdL_hj rfl (by simp) | exact RdL_h0 rfl (by simp) | exact RdL_nil | exact RdL_emp) (by first | assumption | exact RdL.app (by assumption) _ | exact RdL_hj rfl (by simp) | exact RdL_h0 rfl (by simp) | exact RdL_nil | exact RdL_emp) (by first | assumption | omega | (simp; omega) | (simp; done)) (by first | assumption | omega | (simp; omega) | (simp; done)) (by first | assumption | omega | (simp; omega) | (simp; done)) (by first | assumption | (simp; done)) (by first | assumption | (simp; done))))
      | (clear hK K)
      | fail)
    all_goals (first | refine EndA_cut hcl (by first | exact Or.inr rfl | exact Or.inl rfl) (by simp only [Try.results30, resA, aresL, go_sem, reduceIte, reduceCtorEq, Nat.reduceAdd, Nat.reduceMul, Nat.reduceSub, Nat.reduceLeDiff, Nat.lt_irrefl, Nat.reduceLT, Nat.reduceEqDiff, Nat.reduceBEq, Int.reduceLE, Int.reduceLT, Int.reduceToNat, w64, eq_self] <;> rfl) rfl ?_ | refine EndA_same (by first | exact Or.inr rfl | exact Or.inl rfl) (by simp only [Try.results30, resA, aresL, go_sem, reduceIte, reduceCtorEq, Nat.reduceAdd, Nat.reduceMul, Nat.reduceSub, Nat.reduceLeDiff, Nat.lt_irrefl, Nat.reduceLT, Nat.reduceEqDiff, Nat.reduceBEq, Int.reduceLE, Int.reduceLT, Int.reduceToNat, w64, eq_self] <;> rfl) ?_)
    all_goals exact ⟨rfl, rfl⟩
/-! How many numbers are at most x. -/
def srOk (n c : Int) (vs : List (Option Nat)) (gs ss : List Int) (x : Option Nat) : Bool := summB n c vs gs ss && finO x
def srP (vs : List (Option Nat)) (x : Option Nat) : Nat := vs.countP fun y => fLe .f32 y x
def srLow (gs : List Int) (p : Nat) : Int := sumI (gs.take p)
def srHigh (c : Int) (gs ss : List Int) (n p : Nat) : Int := if p < n then sumI (gs.take (p + 1)) + ix ss p - 1 else c
def srH2 (c : Int) (gs ss : List Int) (k p : Nat) : Int := if p < k then sumI (gs.take (p + 1)) + ix ss p - 1 else c
set_option maxHeartbeats 4000000 in
theorem iSummaryRank_c (n c : Int) (x y z : LV) (vs : List (Option Nat)) (gs ss : List Int) (w : Option Nat) (H : Hp) (h : RdL H x (vs.map (LV.flt .f32))) (h1 : RdL H y (gs.map (LV.int .i64))) (h2 : RdL H z (ss.map (LV.int .i64))) (hn : vs.length ≤ 1048576) (hn1 : gs.length ≤ 1048576) (hn2 : ss.length ≤ 1048576) :
    FunH Try.prog 61 [.agg [.int .i64 n, .int .i64 c, x, y, z], .flt .f32 w] H fun r' H' => r' = .tup [.int .i64 (if srOk n c vs gs ss w then srLow gs (srP vs w) else 0), .int .i64 (if srOk n c vs gs ss w then srHigh c gs ss vs.length (srP vs w) else 0), .bool (srOk n c vs gs ss w)] ∧ H' = H := by
  cases e : srOk n c vs gs ss w
  · cases e1 : summB n c vs gs ss
    · (refine FunH_body tyOk Try.func61 rfl (by kernel_rfl) Try.ntmps61 (fun hcl hbd => ?_); simp only [List.length_cons, List.length_nil, Nat.reduceAdd, Nat.reduceSub, List.replicate, List.cons_append, List.nil_append])
      repeat' (first
        | ((with_reducible refine hK _ _ ?_); clear hK K)
        | ((with_reducible refine hK _ ?_); clear hK K; try simp only [])
        | ((first | (with_reducible show AOp _ _ _ _ _ _ _) | (with_reducible show AQOp _ _ _ _ _ _ _)); simp (disch := first | omega | assumption | rfl | (exact liveO_setS (by assumption)) | (exact PtL.live (by assumption)) | (exact PtL.liveA (by assumption) _) | (simp only [go_sem]; first | done | omega)) only [go_sem, reduceIte, reduceCtorEq, Nat.reduceAdd, Nat.reduceMul, Nat.reduceSub, Nat.reduceLeDiff, Nat.lt_irrefl, Nat.reduceLT, Nat.reduceEqDiff, Nat.reduceBEq, Int.reduceLE, Int.reduceLT, Int.reduceToNat, w64, eq_self, h.isCell, h1.isCell, h2.isCell, h.lenm, h1.lenm, h2.lenm, e1])
        | (with_reducible refine AW_seq (fun K hK => ?_))
        | (with_reducible refine AW_region tyOk ?_)
        | ((with_reducible refine AW_quiet (id := 4) tyOk ?_ ?_ ?_); (kernel_rfl); (kernel_rfl))
        | (with_reducible refine AOps_cons (fun K hK => ?_))
        | (with_reducible refine AQOps_cons (fun K hK => ?_))
        | ((with_reducible refine AQOps_nil ?_); try simp (disch := first | omega | assumption | rfl | (exact liveO_setS (by assumption)) | (exact PtL.live (by assumption)) | (exact PtL.liveA (by assumption) _) | (simp only [thenA, blockA, go_sem]; first | done | omega)) only [thenA, blockA, go_sem, reduceIte, reduceCtorEq, Nat.reduceAdd, Nat.reduceMul, Nat.reduceSub, Nat.reduceLeDiff, Nat.lt_irrefl, Nat.reduceLT, Nat.reduceEqDiff, Nat.reduceBEq, Int.reduceLE, Int.reduceLT, Int.reduceToNat, w64, eq_self, h.isCell, h1.isCell, h2.isCell, h.lenm, h1.lenm, h2.lenm, e1])
        | ((with_reducible refine AOps_nil ?_); try simp (disch := first | omega | assumption | rfl | (exact liveO_setS (by assumption)) | (exact PtL.live (by assumption)) | (exact PtL.liveA (by assumption) _) | (simp only [thenA, blockA, go_sem]; first | done | omega)) only [thenA, blockA, go_sem, reduceIte, reduceCtorEq, Nat.reduceAdd, Nat.reduceMul, Nat.reduceSub, Nat.reduceLeDiff, Nat.lt_irrefl, Nat.reduceLT, Nat.reduceEqDiff, Nat.reduceBEq, Int.reduceLE, Int.reduceLT, Int.reduceToNat, w64, eq_self, h.isCell, h1.isCell, h2.isCell, h.lenm, h1.lenm, h2.lenm, e1])
        | (with_reducible refine AW_block ?_)
        | ((first | (with_reducible refine AW_ret ?_) | (with_reducible refine AW_skip ?_) | (with_reducible refine AW_exit ?_)); try simp only [thenA, blockA, if_true, if_false, reduceIte, Nat.reduceEqDiff, reduceCtorEq])
        | ((with_reducible show AW _ _ (.cond _ _ _) _ _ _); refine AW_cond rfl (fun hg => ?_) (fun hg => ?_) <;> first | (exfalso; simp only [reduceCtorEq] at hg; done) | ((try simp only [Bool.not_eq_true', Bool.not_eq_false', decide_eq_true_eq, decide_eq_false_iff_not] at hg); try (exfalso; omega)))
        | ((with_reducible show _ ∧ _); refine And.intro (fun hg => ?_) (fun hg => ?_) <;> (try simp only [Bool.not_eq_true', Bool.not_eq_false'] at hg) <;> simp only [hg] <;> (try simp only [decide_eq_true_eq, decide_eq_false_iff_not] at hg) <;> (try (exfalso; omega)))
        | ((first | (with_reducible apply FunH_intro) | (with_reducible apply AQ_intro)); (first | exact IsFinite_c _ _ | exact rank_c _ _ _ _ (by first | assumption | exact RdL.app (by assumption) _ | exact RdL_hj rfl (by simp) | exact RdL_h0 rfl (by simp) | exact RdL_nil | exact RdL_emp) (by first | assumption | omega | (simp; omega) | (simp; done)) | exact iValidSummary_c _ _ _ _ _ _ _ _ _ (by first | assumption | exact RdL.app (by assumption) _ | exact RdL_hj rfl (by simp) | exact RdL_h0 rfl (by simp) | exact RdL_nil | exact RdL_emp) (by first | assumption | exact RdL.app (by assumption) _ | exact RdL_hj rfl (by simp) | exact RdL_h0 rfl (by simp) | exact RdL_nil | exact RdL_emp) (by first | assumption | exact RdL.app (by assumption) _ | exact RdL_hj rfl (by simp) | exact RdL_h0 rfl (by simp) | exact RdL_nil | exact RdL_emp) (by first | assumption | omega | (simp; omega) | (simp; done)) (by first | assumption | omega | (simp; omega) | (simp; done)) (by first | assumption | omega | (simp; omega) | (simp; done)) | exact ranks_c _ _ _ _ _ _ _ _ _ (by first | rfl | assumption | omega | (simp; done)) (by first | assumption | exact RdL.app (by assumption) _ | exact RdL_hj rfl (by simp) | exact RdL_h0 rfl (by simp) | exact RdL_nil | exact RdL_emp) (by first | assumption | exact RdL.app (by assumption) _ | exact RdL_hj rfl (by simp) | exact RdL_h0 rfl (by simp) | exact RdL_nil | exact RdL_emp) (by first | assumption | omega | (simp; omega) | (simp; done)) (by first | assumption | omega | (simp; omega) | (simp; done)) (by first | assumption | omega | (simp; omega) | (simp; done)) (by first | assumption | (simp; done)) (by first | assumption | (simp; done))))
        | (clear hK K)
        | fail)
      all_goals (first | refine EndA_cut hcl (by first | exact Or.inr rfl | exact Or.inl rfl) (by simp only [Try.results61, resA, aresL, go_sem, reduceIte, reduceCtorEq, Nat.reduceAdd, Nat.reduceMul, Nat.reduceSub, Nat.reduceLeDiff, Nat.lt_irrefl, Nat.reduceLT, Nat.reduceEqDiff, Nat.reduceBEq, Int.reduceLE, Int.reduceLT, Int.reduceToNat, w64, eq_self] <;> rfl) rfl ?_ | refine EndA_same (by first | exact Or.inr rfl | exact Or.inl rfl) (by simp only [Try.results61, resA, aresL, go_sem, reduceIte, reduceCtorEq, Nat.reduceAdd, Nat.reduceMul, Nat.reduceSub, Nat.reduceLeDiff, Nat.lt_irrefl, Nat.reduceLT, Nat.reduceEqDiff, Nat.reduceBEq, Int.reduceLE, Int.reduceLT, Int.reduceToNat, w64, eq_self] <;> rfl) ?_)
      all_goals exact ⟨rfl, rfl⟩
    · have e2 : finO w = false := by unfold srOk at e; rw [e1] at e; simpa using e
      (refine FunH_body tyOk Try.func61 rfl (by kernel_rfl) Try.ntmps61 (fun hcl hbd => ?_); simp only [List.length_cons, List.length_nil, Nat.reduceAdd, Nat.reduceSub, List.replicate, List.cons_append, List.nil_append])
      repeat' (first
        | ((with_reducible refine hK _ _ ?_); clear hK K)
        | ((with_reducible refine hK _ ?_); clear hK K; try simp only [])
        | ((first | (with_reducible show AOp _ _ _ _ _ _ _) | (with_reducible show AQOp _ _ _ _ _ _ _)); simp (disch := first | omega | assumption | rfl | (exact liveO_setS (by assumption)) | (exact PtL.live (by assumption)) | (exact PtL.liveA (by assumption) _) | (simp only [go_sem]; first | done | omega)) only [go_sem, reduceIte, reduceCtorEq, Nat.reduceAdd, Nat.reduceMul, Nat.reduceSub, Nat.reduceLeDiff, Nat.lt_irrefl, Nat.reduceLT, Nat.reduceEqDiff, Nat.reduceBEq, Int.reduceLE, Int.reduceLT, Int.reduceToNat, w64, eq_self, h.isCell, h1.isCell, h2.isCell, h.lenm, h1.lenm, h2.lenm, e1, e2])
        | (with_reducible refine AW_seq (fun K hK => ?_))
        | (with_reducible refine AW_region tyOk ?_)
        | ((with_reducible refine AW_quiet (id := 4) tyOk ?_ ?_ ?_); (kernel_rfl); (kernel_rfl))
        | (with_reducible refine AOps_cons (fun K hK => ?_))
        | (with_reducible refine AQOps_cons (fun K hK => ?_))
        | ((with_reducible refine AQOps_nil ?_); try simp (disch := first | omega | assumption | rfl | (exact liveO_setS (by assumption)) | (exact PtL.live (by assumption)) | (exact PtL.liveA (by assumption) _) | (simp only [thenA, blockA, go_sem]; first | done | omega)) only [thenA, blockA, go_sem, reduceIte, reduceCtorEq, Nat.reduceAdd, Nat.reduceMul, Nat.reduceSub, Nat.reduceLeDiff, Nat.lt_irrefl, Nat.reduceLT, Nat.reduceEqDiff, Nat.reduceBEq, Int.reduceLE, Int.reduceLT, Int.reduceToNat, w64, eq_self, h.isCell, h1.isCell, h2.isCell, h.lenm, h1.lenm, h2.lenm, e1, e2])
        | ((with_reducible refine AOps_nil ?_); try simp (disch := first | omega | assumption | rfl | (exact liveO_setS (by assumption)) | (exact PtL.live (by assumption)) | (exact PtL.liveA (by assumption) _) | (simp only [thenA, blockA, go_sem]; first | done | omega)) only [thenA, blockA, go_sem, reduceIte, reduceCtorEq, Nat.reduceAdd, Nat.reduceMul, Nat.reduceSub, Nat.reduceLeDiff, Nat.lt_irrefl, Nat.reduceLT, Nat.reduceEqDiff, Nat.reduceBEq, Int.reduceLE, Int.reduceLT, Int.reduceToNat, w64, eq_self, h.isCell, h1.isCell, h2.isCell, h.lenm, h1.lenm, h2.lenm, e1, e2])
        | (with_reducible refine AW_block ?_)
        | ((first | (with_reducible refine AW_ret ?_) | (with_reducible refine AW_skip ?_) | (with_reducible refine AW_exit ?_)); try simp only [thenA, blockA, if_true, if_false, reduceIte, Nat.reduceEqDiff, reduceCtorEq])
        | ((with_reducible show AW _ _ (.cond _ _ _) _ _ _); refine AW_cond rfl (fun hg => ?_) (fun hg => ?_) <;> first | (exfalso; simp only [reduceCtorEq] at hg; done) | ((try simp only [Bool.not_eq_true', Bool.not_eq_false', decide_eq_true_eq, decide_eq_false_iff_not] at hg); try (exfalso; omega)))
        | ((with_reducible show _ ∧ _); refine And.intro (fun hg => ?_) (fun hg => ?_) <;> (try simp only [Bool.not_eq_true', Bool.not_eq_false'] at hg) <;> simp only [hg] <;> (try simp only [decide_eq_true_eq, decide_eq_false_iff_not] at hg) <;> (try (exfalso; omega)))
        | ((first | (with_reducible apply FunH_intro) | (with_reducible apply AQ_intro)); (first | exact IsFinite_c _ _ | exact rank_c _ _ _ _ (by first | assumption | exact RdL.app (by assumption) _ | exact RdL_hj rfl (by simp) | exact RdL_h0 rfl (by simp) | exact RdL_nil | exact RdL_emp) (by first | assumption | omega | (simp; omega) | (simp; done)) | exact iValidSummary_c _ _ _ _ _ _ _ _ _ (by first | assumption | exact RdL.app (by assumption) _ | exact RdL_hj rfl (by simp) | exact RdL_h0 rfl (by simp) | exact RdL_nil | exact RdL_emp) (by first | assumption | exact RdL.app (by assumption) _ | exact RdL_hj rfl (by simp) | exact RdL_h0 rfl (by simp) | exact RdL_nil | exact RdL_emp) (by first | assumption | exact RdL.app (by assumption) _ | exact RdL_hj rfl (by simp) | exact RdL_h0 rfl (by simp) | exact RdL_nil | exact RdL_emp) (by first | assumption | omega | (simp; omega) | (simp; done)) (by first | assumption | omega | (simp; omega) | (simp; done)) (by first | assumption | omega | (simp; omega) | (simp; done)) | exact ranks_c _ _ _ _ _ _ _ _ _ (by first | rfl | assumption | omega | (simp; done)) (by first | assumption | exact RdL.app (by assumption) _ | exact RdL_hj rfl (by simp) | exact RdL_h0 rfl (by simp) | exact RdL_nil | exact RdL_emp) (by first | assumption | exact RdL.app (by assumption) _ | exact RdL_hj rfl (by simp) | exact RdL_h0 rfl (by simp) | exact RdL_nil | exact RdL_emp) (by first | assumption | omega | (simp; omega) | (simp; done)) (by first | assumption | omega | (simp; omega) | (simp; done)) (by first | assumption | omega | (simp; omega) | (simp; done)) (by first | assumption | (simp; done)) (by first | assumption | (simp; done))))
        | (clear hK K)
        | fail)
      all_goals (first | refine EndA_cut hcl (by first | exact Or.inr rfl | exact Or.inl rfl) (by simp only [Try.results61, resA, aresL, go_sem, reduceIte, reduceCtorEq, Nat.reduceAdd, Nat.reduceMul, Nat.reduceSub, Nat.reduceLeDiff, Nat.lt_irrefl, Nat.reduceLT, Nat.reduceEqDiff, Nat.reduceBEq, Int.reduceLE, Int.reduceLT, Int.reduceToNat, w64, eq_self] <;> rfl) rfl ?_ | refine EndA_same (by first | exact Or.inr rfl | exact Or.inl rfl) (by simp only [Try.results61, resA, aresL, go_sem, reduceIte, reduceCtorEq, Nat.reduceAdd, Nat.reduceMul, Nat.reduceSub, Nat.reduceLeDiff, Nat.lt_irrefl, Nat.reduceLT, Nat.reduceEqDiff, Nat.reduceBEq, Int.reduceLE, Int.reduceLT, Int.reduceToNat, w64, eq_self] <;> rfl) ?_)
      all_goals exact ⟨rfl, rfl⟩
  · have e1 : summB n c vs gs ss = true ∧ finO w = true := by unfold srOk at e; simpa using e
    obtain ⟨e1, e2⟩ := e1
    obtain ⟨a1, a2, a3, a4, a5, a6, a7, a8, a9, a10⟩ := summB_all e1
    obtain ⟨b1, b2⟩ := summB_big e1
    have hxc := h.isCell
    simp only [if_true]
    unfold srLow srHigh srP
    have hp : (vs.countP fun y => fLe .f32 y w) ≤ vs.length := List.countP_le_length
    obtain ⟨p, hpe⟩ : ∃ p, (vs.countP fun y => fLe .f32 y w) = p := ⟨_, rfl⟩
    rw [hpe] at hp ⊢
    by_cases h0 : 0 < p
    · obtain ⟨q, rfl⟩ : ∃ q, p = q + 1 := ⟨p - 1, by omega⟩
      have eq1 : ((q + 1 : Nat) : Int) - 1 = (q : Nat) := by omega
      by_cases hq : q + 1 < vs.length
      · have hs := sumI_fit hn1 b1 (q + 1 + 1) (by omega)
        have hc' := b2 _ (ix_mem ss (q + 1) (by omega))
        (refine FunH_body tyOk Try.func61 rfl (by kernel_rfl) Try.ntmps61 (fun hcl hbd => ?_); simp only [List.length_cons, List.length_nil, Nat.reduceAdd, Nat.reduceSub, List.replicate, List.cons_append, List.nil_append])
        repeat' (first
          | ((with_reducible refine hK _ _ ?_); clear hK K)
          | ((with_reducible refine hK _ ?_); clear hK K; try simp only [])
          | ((first | (with_reducible show AOp _ _ _ _ _ _ _) | (with_reducible show AQOp _ _ _ _ _ _ _)); simp (disch := first | omega | assumption | rfl | (exact liveO_setS (by assumption)) | (exact PtL.live (by assumption)) | (exact PtL.liveA (by assumption) _) | (simp only [go_sem]; first | done | omega)) only [go_sem, reduceIte, reduceCtorEq, Nat.reduceAdd, Nat.reduceMul, Nat.reduceSub, Nat.reduceLeDiff, Nat.lt_irrefl, Nat.reduceLT, Nat.reduceEqDiff, Nat.reduceBEq, Int.reduceLE, Int.reduceLT, Int.reduceToNat, w64, eq_self, h.isCell, h1.isCell, h2.isCell, h.lenm, h1.lenm, h2.lenm, e1, e2, hpe, eq1])
          | (with_reducible refine AW_seq (fun K hK => ?_))
          | (with_reducible refine AW_region tyOk ?_)
          | ((with_reducible refine AW_quiet (id := 4) tyOk ?_ ?_ ?_); (kernel_rfl); (kernel_rfl))
          | (with_reducible refine AOps_cons (fun K hK => ?_))
          | (with_reducible refine AQOps_cons (fun K hK => ?_))
          | ((with_reducible refine AQOps_nil ?_); try simp (disch := first | omega | assumption | rfl | (exact liveO_setS (by assumption)) | (exact PtL.live (by assumption)) | (exact PtL.liveA (by assumption) _) | (simp only [thenA, blockA, go_sem]; first | done | omega)) only [thenA, blockA, go_sem, reduceIte, reduceCtorEq, Nat.reduceAdd, Nat.reduceMul, Nat.reduceSub, Nat.reduceLeDiff, Nat.lt_irrefl, Nat.reduceLT, Nat.reduceEqDiff, Nat.reduceBEq, Int.reduceLE, Int.reduceLT, Int.reduceToNat, w64, eq_self, h.isCell, h1.isCell, h2.isCell, h.lenm, h1.lenm, h2.lenm, e1, e2, hpe, eq1])
          | ((with_reducible refine AOps_nil ?_); try simp (disch := first | omega | assumption | rfl | (exact liveO_setS (by assumption)) | (exact PtL.live (by assumption)) | (exact PtL.liveA (by assumption) _) | (simp only [thenA, blockA, go_sem]; first | done | omega)) only [thenA, blockA, go_sem, reduceIte, reduceCtorEq, Nat.reduceAdd, Nat.reduceMul, Nat.reduceSub, Nat.reduceLeDiff, Nat.lt_irrefl, Nat.reduceLT, Nat.reduceEqDiff, Nat.reduceBEq, Int.reduceLE, Int.reduceLT, Int.reduceToNat, w64, eq_self, h.isCell, h1.isCell, h2.isCell, h.lenm, h1.lenm, h2.lenm, e1, e2, hpe, eq1])
          | (with_reducible refine AW_block ?_)
          | ((first | (with_reducible refine AW_ret ?_) | (with_reducible refine AW_skip ?_) | (with_reducible refine AW_exit ?_)); try simp only [thenA, blockA, if_true, if_false, reduceIte, Nat.reduceEqDiff, reduceCtorEq])
          | ((with_reducible show AW _ _ (.cond _ _ _) _ _ _); refine AW_cond rfl (fun hg => ?_) (fun hg => ?_) <;> first | (exfalso; simp only [reduceCtorEq] at hg; done) | ((try simp only [Bool.not_eq_true', Bool.not_eq_false', decide_eq_true_eq, decide_eq_false_iff_not] at hg); try (exfalso; omega)))
          | ((with_reducible show _ ∧ _); refine And.intro (fun hg => ?_) (fun hg => ?_) <;> (try simp only [Bool.not_eq_true', Bool.not_eq_false'] at hg) <;> simp only [hg] <;> (try simp only [decide_eq_true_eq, decide_eq_false_iff_not] at hg) <;> (try (exfalso; omega)))
          | ((first | (with_reducible apply FunH_intro) | (with_reducible apply AQ_intro)); (first | exact IsFinite_c _ _ | exact rank_c _ _ _ _ (by first | assumption | exact RdL.app (by assumption) _ | exact RdL_hj rfl (by simp) | exact RdL_h0 rfl (by simp) | exact RdL_nil | exact RdL_emp) (by first | assumption | omega | (simp; omega) | (simp; done)) | exact iValidSummary_c _ _ _ _ _ _ _ _ _ (by first | assumption | exact RdL.app (by assumption) _ | exact RdL_hj rfl (by simp) | exact RdL_h0 rfl (by simp) | exact RdL_nil | exact RdL_emp) (by first | assumption | exact RdL.app (by assumption) _ | exact RdL_hj rfl (by simp) | exact RdL_h0 rfl (by simp) | exact RdL_nil | exact RdL_emp) (by first | assumption | exact RdL.app (by assumption) _ | exact RdL_hj rfl (by simp) | exact RdL_h0 rfl (by simp) | exact RdL_nil | exact RdL_emp) (by first | assumption | omega | (simp; omega) | (simp; done)) (by first | assumption | omega | (simp; omega) | (simp; done)) (by first | assumption | omega | (simp; omega) | (simp; done)) | exact ranks_c _ _ _ _ _ _ _ _ _ (by first | rfl | assumption | omega | (simp; done)) (by first | assumption | exact RdL.app (by assumption) _ | exact RdL_hj rfl (by simp) | exact RdL_h0 rfl (by simp) | exact RdL_nil | exact RdL_emp) (by first | assumption | exact RdL.app (by assumption) _ | exact RdL_hj rfl (by simp) | exact RdL_h0 rfl (by simp) | exact RdL_nil | exact RdL_emp) (by first | assumption | omega | (simp; omega) | (simp; done)) (by first | assumption | omega | (simp; omega) | (simp; done)) (by first | assumption | omega | (simp; omega) | (simp; done)) (by first | assumption | (simp; done)) (by first | assumption | (simp; done))))
          | (clear hK K)
          | fail)
        all_goals (first | refine EndA_cut hcl (by first | exact Or.inr rfl | exact Or.inl rfl) (by simp only [Try.results61, resA, aresL, go_sem, reduceIte, reduceCtorEq, Nat.reduceAdd, Nat.reduceMul, Nat.reduceSub, Nat.reduceLeDiff, Nat.lt_irrefl, Nat.reduceLT, Nat.reduceEqDiff, Nat.reduceBEq, Int.reduceLE, Int.reduceLT, Int.reduceToNat, w64, eq_self] <;> rfl) rfl ?_ | refine EndA_same (by first | exact Or.inr rfl | exact Or.inl rfl) (by simp only [Try.results61, resA, aresL, go_sem, reduceIte, reduceCtorEq, Nat.reduceAdd, Nat.reduceMul, Nat.reduceSub, Nat.reduceLeDiff, Nat.lt_irrefl, Nat.reduceLT, Nat.reduceEqDiff, Nat.reduceBEq, Int.reduceLE, Int.reduceLT, Int.reduceToNat, w64, eq_self] <;> rfl) ?_)
        all_goals exact ⟨by rw [if_pos hq], rfl⟩
      · (refine FunH_body tyOk Try.func61 rfl (by kernel_rfl) Try.ntmps61 (fun hcl hbd => ?_); simp only [List.length_cons, List.length_nil, Nat.reduceAdd, Nat.reduceSub, List.replicate, List.cons_append, List.nil_append])
        repeat' (first
          | ((with_reducible refine hK _ _ ?_); clear hK K)
          | ((with_reducible refine hK _ ?_); clear hK K; try simp only [])
          | ((first | (with_reducible show AOp _ _ _ _ _ _ _) | (with_reducible show AQOp _ _ _ _ _ _ _)); simp (disch := first | omega | assumption | rfl | (exact liveO_setS (by assumption)) | (exact PtL.live (by assumption)) | (exact PtL.liveA (by assumption) _) | (simp only [go_sem]; first | done | omega)) only [go_sem, reduceIte, reduceCtorEq, Nat.reduceAdd, Nat.reduceMul, Nat.reduceSub, Nat.reduceLeDiff, Nat.lt_irrefl, Nat.reduceLT, Nat.reduceEqDiff, Nat.reduceBEq, Int.reduceLE, Int.reduceLT, Int.reduceToNat, w64, eq_self, h.isCell, h1.isCell, h2.isCell, h.lenm, h1.lenm, h2.lenm, e1, e2, hpe, eq1])
          | (with_reducible refine AW_seq (fun K hK => ?_))
          | (with_reducible refine AW_region tyOk ?_)
          | ((with_reducible refine AW_quiet (id := 4) tyOk ?_ ?_ ?_); (kernel_rfl); (kernel_rfl))
          | (with_reducible refine AOps_cons (fun K hK => ?_))
          | (with_reducible refine AQOps_cons (fun K hK => ?_))
          | ((with_reducible refine AQOps_nil ?_); try simp (disch := first | omega | assumption | rfl | (exact liveO_setS (by assumption)) | (exact PtL.live (by assumption)) | (exact PtL.liveA (by assumption) _) | (simp only [thenA, blockA, go_sem]; first | done | omega)) only [thenA, blockA, go_sem, reduceIte, reduceCtorEq, Nat.reduceAdd, Nat.reduceMul, Nat.reduceSub, Nat.reduceLeDiff, Nat.lt_irrefl, Nat.reduceLT, Nat.reduceEqDiff, Nat.reduceBEq, Int.reduceLE, Int.reduceLT, Int.reduceToNat, w64, eq_self, h.isCell, h1.isCell, h2.isCell, h.lenm, h1.lenm, h2.lenm, e1, e2, hpe, eq1])
          | ((with_reducible refine AOps_nil ?_); try simp (disch := first | omega | assumption | rfl | (exact liveO_setS (by assumption)) | (exact PtL.live (by assumption)) | (exact PtL.liveA (by assumption) _) | (simp only [thenA, blockA, go_sem]; first | done | omega)) only [thenA, blockA, go_sem, reduceIte, reduceCtorEq, Nat.reduceAdd, Nat.reduceMul, Nat.reduceSub, Nat.reduceLeDiff, Nat.lt_irrefl, Nat.reduceLT, Nat.reduceEqDiff, Nat.reduceBEq, Int.reduceLE, Int.reduceLT, Int.reduceToNat, w64, eq_self, h.isCell, h1.isCell, h2.isCell, h.lenm, h1.lenm, h2.lenm, e1, e2, hpe, eq1])
          | (with_reducible refine AW_block ?_)
          | ((first | (with_reducible refine AW_ret ?_) | (with_reducible refine AW_skip ?_) | (with_reducible refine AW_exit ?_)); try simp only [thenA, blockA, if_true, if_false, reduceIte, Nat.reduceEqDiff, reduceCtorEq])
          | ((with_reducible show AW _ _ (.cond _ _ _) _ _ _); refine AW_cond rfl (fun hg => ?_) (fun hg => ?_) <;> first | (exfalso; simp only [reduceCtorEq] at hg; done) | ((try simp only [Bool.not_eq_true', Bool.not_eq_false', decide_eq_true_eq, decide_eq_false_iff_not] at hg); try (exfalso; omega)))
          | ((with_reducible show _ ∧ _); refine And.intro (fun hg => ?_) (fun hg => ?_) <;> (try simp only [Bool.not_eq_true', Bool.not_eq_false'] at hg) <;> simp only [hg] <;> (try simp only [decide_eq_true_eq, decide_eq_false_iff_not] at hg) <;> (try (exfalso; omega)))
          | ((first | (with_reducible apply FunH_intro) | (with_reducible apply AQ_intro)); (first | exact IsFinite_c _ _ | exact rank_c _ _ _ _ (by first | assumption | exact RdL.app (by assumption) _ | exact RdL_hj rfl (by simp) | exact RdL_h0 rfl (by simp) | exact RdL_nil | exact RdL_emp) (by first | assumption | omega | (simp; omega) | (simp; done)) | exact iValidSummary_c _ _ _ _ _ _ _ _ _ (by first | assumption | exact RdL.app (by assumption) _ | exact RdL_hj rfl (by simp) | exact RdL_h0 rfl (by simp) | exact RdL_nil | exact RdL_emp) (by first | assumption | exact RdL.app (by assumption) _ | exact RdL_hj rfl (by simp) | exact RdL_h0 rfl (by simp) | exact RdL_nil | exact RdL_emp) (by first | assumption | exact RdL.app (by assumption) _ | exact RdL_hj rfl (by simp) | exact RdL_h0 rfl (by simp) | exact RdL_nil | exact RdL_emp) (by first | assumption | omega | (simp; omega) | (simp; done)) (by first | assumption | omega | (simp; omega) | (simp; done)) (by first | assumption | omega | (simp; omega) | (simp; done)) | exact ranks_c _ _ _ _ _ _ _ _ _ (by first | rfl | assumption | omega | (simp; done)) (by first | assumption | exact RdL.app (by assumption) _ | exact RdL_hj rfl (by simp) | exact RdL_h0 rfl (by simp) | exact RdL_nil | exact RdL_emp) (by first | assumption | exact RdL.app (by assumption) _ | exact RdL_hj rfl (by simp) | exact RdL_h0 rfl (by simp) | exact RdL_nil | exact RdL_emp) (by first | assumption | omega | (simp; omega) | (simp; done)) (by first | assumption | omega | (simp; omega) | (simp; done)) (by first | assumption | omega | (simp; omega) | (simp; done)) (by first | assumption | (simp; done)) (by first | assumption | (simp; done))))
          | (clear hK K)
          | fail)
        all_goals (first | refine EndA_cut hcl (by first | exact Or.inr rfl | exact Or.inl rfl) (by simp only [Try.results61, resA, aresL, go_sem, reduceIte, reduceCtorEq, Nat.reduceAdd, Nat.reduceMul, Nat.reduceSub, Nat.reduceLeDiff, Nat.lt_irrefl, Nat.reduceLT, Nat.reduceEqDiff, Nat.reduceBEq, Int.reduceLE, Int.reduceLT, Int.reduceToNat, w64, eq_self] <;> rfl) rfl ?_ | refine EndA_same (by first | exact Or.inr rfl | exact Or.inl rfl) (by simp only [Try.results61, resA, aresL, go_sem, reduceIte, reduceCtorEq, Nat.reduceAdd, Nat.reduceMul, Nat.reduceSub, Nat.reduceLeDiff, Nat.lt_irrefl, Nat.reduceLT, Nat.reduceEqDiff, Nat.reduceBEq, Int.reduceLE, Int.reduceLT, Int.reduceToNat, w64, eq_self] <;> rfl) ?_)
        all_goals exact ⟨by rw [if_neg hq], rfl⟩
    · have ep : p = 0 := by omega
      have e0 : sumI (gs.take p) = 0 := by rw [ep]; rfl
      rw [e0]
      by_cases hq : p < vs.length
      · have hs := sumI_fit hn1 b1 (p + 1) (by omega)
        have hc' := b2 _ (ix_mem ss p (by omega))
        (refine FunH_body tyOk Try.func61 rfl (by kernel_rfl) Try.ntmps61 (fun hcl hbd => ?_); simp only [List.length_cons, List.length_nil, Nat.reduceAdd, Nat.reduceSub, List.replicate, List.cons_append, List.nil_append])
        repeat' (first
          | ((with_reducible refine hK _ _ ?_); clear hK K)
          | ((with_reducible refine hK _ ?_); clear hK K; try simp only [])
          | ((first | (with_reducible show AOp _ _ _ _ _ _ _) | (with_reducible show AQOp _ _ _ _ _ _ _)); simp (disch := first | omega | assumption | rfl | (exact liveO_setS (by assumption)) | (exact PtL.live (by assumption)) | (exact PtL.liveA (by assumption) _) | (simp only [go_sem]; first | done | omega)) only [go_sem, reduceIte, reduceCtorEq, Nat.reduceAdd, Nat.reduceMul, Nat.reduceSub, Nat.reduceLeDiff, Nat.lt_irrefl, Nat.reduceLT, Nat.reduceEqDiff, Nat.reduceBEq, Int.reduceLE, Int.reduceLT, Int.reduceToNat, w64, eq_self, h.isCell, h1.isCell, h2.isCell, h.lenm, h1.lenm, h2.lenm, e1, e2, hpe])
          | (with_reducible refine AW_seq (fun K hK => ?_))
          | (with_reducible refine AW_region tyOk ?_)
          | ((with_reducible refine AW_quiet (id := 4) tyOk ?_ ?_ ?_); (kernel_rfl); (kernel_rfl))
          | (with_reducible refine AOps_cons (fun K hK => ?_))
          | (with_reducible refine AQOps_cons (fun K hK => ?_))
          | ((with_reducible refine AQOps_nil ?_); try simp (disch := first | omega | assumption | rfl | (exact liveO_setS (by assumption)) | (exact PtL.live (by assumption)) | (exact PtL.liveA (by assumption) _) | (simp only [thenA, blockA, go_sem]; first | done | omega)) only [thenA, blockA, go_sem, reduceIte, reduceCtorEq, Nat.reduceAdd, Nat.reduceMul, Nat.reduceSub, Nat.reduceLeDiff, Nat.lt_irrefl, Nat.reduceLT, Nat.reduceEqDiff, Nat.reduceBEq, Int.reduceLE, Int.reduceLT, Int.reduceToNat, w64, eq_self, h.isCell, h1.isCell, h2.isCell, h.lenm, h1.lenm, h2.lenm, e1, e2, hpe])
          | ((with_reducible refine AOps_nil ?_); try simp (disch := first | omega | assumption | rfl | (exact liveO_setS (by assumption)) | (exact PtL.live (by assumption)) | (exact PtL.liveA (by assumption) _) | (simp only [thenA, blockA, go_sem]; first | done | omega)) only [thenA, blockA, go_sem, reduceIte, reduceCtorEq, Nat.reduceAdd, Nat.reduceMul, Nat.reduceSub, Nat.reduceLeDiff, Nat.lt_irrefl, Nat.reduceLT, Nat.reduceEqDiff, Nat.reduceBEq, Int.reduceLE, Int.reduceLT, Int.reduceToNat, w64, eq_self, h.isCell, h1.isCell, h2.isCell, h.lenm, h1.lenm, h2.lenm, e1, e2, hpe])
          | (with_reducible refine AW_block ?_)
          | ((first | (with_reducible refine AW_ret ?_) | (with_reducible refine AW_skip ?_) | (with_reducible refine AW_exit ?_)); try simp only [thenA, blockA, if_true, if_false, reduceIte, Nat.reduceEqDiff, reduceCtorEq])
          | ((with_reducible show AW _ _ (.cond _ _ _) _ _ _); refine AW_cond rfl (fun hg => ?_) (fun hg => ?_) <;> first | (exfalso; simp only [reduceCtorEq] at hg; done) | ((try simp only [Bool.not_eq_true', Bool.not_eq_false', decide_eq_true_eq, decide_eq_false_iff_not] at hg); try (exfalso; omega)))
          | ((with_reducible show _ ∧ _); refine And.intro (fun hg => ?_) (fun hg => ?_) <;> (try simp only [Bool.not_eq_true', Bool.not_eq_false'] at hg) <;> simp only [hg] <;> (try simp only [decide_eq_true_eq, decide_eq_false_iff_not] at hg) <;> (try (exfalso; omega)))
          | ((first | (with_reducible apply FunH_intro) | (with_reducible apply AQ_intro)); (first | exact IsFinite_c _ _ | exact rank_c _ _ _ _ (by first | assumption | exact RdL.app (by assumption) _ | exact RdL_hj rfl (by simp) | exact RdL_h0 rfl (by simp) | exact RdL_nil | exact RdL_emp) (by first | assumption | omega | (simp; omega) | (simp; done)) | exact iValidSummary_c _ _ _ _ _ _ _ _ _ (by first | assumption | exact RdL.app (by assumption) _ | exact RdL_hj rfl (by simp) | exact RdL_h0 rfl (by simp) | exact RdL_nil | exact RdL_emp) (by first | assumption | exact RdL.app (by assumption) _ | exact RdL_hj rfl (by simp) | exact RdL_h0 rfl (by simp) | exact RdL_nil | exact RdL_emp) (by first | assumption | exact RdL.app (by assumption) _ | exact RdL_hj rfl (by simp) | exact RdL_h0 rfl (by simp) | exact RdL_nil | exact RdL_emp) (by first | assumption | omega | (simp; omega) | (simp; done)) (by first | assumption | omega | (simp; omega) | (simp; done)) (by first | assumption | omega | (simp; omega) | (simp; done)) | exact ranks_c _ _ _ _ _ _ _ _ _ (by first | rfl | assumption | omega | (simp; done)) (by first | assumption | exact RdL.app (by assumption) _ | exact RdL_hj rfl (by simp) | exact RdL_h0 rfl (by simp) | exact RdL_nil | exact RdL_emp) (by first | assumption | exact RdL.app (by assumption) _ | exact RdL_hj rfl (by simp) | exact RdL_h0 rfl (by simp) | exact RdL_nil | exact RdL_emp) (by first | assumption | omega | (simp; omega) | (simp; done)) (by first | assumption | omega | (simp; omega) | (simp; done)) (by first | assumption | omega | (simp; omega) | (simp; done)) (by first | assumption | (simp; done)) (by first | assumption | (simp; done))))
          | (clear hK K)
          | fail)
        all_goals (first | refine EndA_cut hcl (by first | exact Or.inr rfl | exact Or.inl rfl) (by simp only [Try.results61, resA, aresL, go_sem, reduceIte, reduceCtorEq, Nat.reduceAdd, Nat.reduceMul, Nat.reduceSub, Nat.reduceLeDiff, Nat.lt_irrefl, Nat.reduceLT, Nat.reduceEqDiff, Nat.reduceBEq, Int.reduceLE, Int.reduceLT, Int.reduceToNat, w64, eq_self] <;> rfl) rfl ?_ | refine EndA_same (by first | exact Or.inr rfl | exact Or.inl rfl) (by simp only [Try.results61, resA, aresL, go_sem, reduceIte, reduceCtorEq, Nat.reduceAdd, Nat.reduceMul, Nat.reduceSub, Nat.reduceLeDiff, Nat.lt_irrefl, Nat.reduceLT, Nat.reduceEqDiff, Nat.reduceBEq, Int.reduceLE, Int.reduceLT, Int.reduceToNat, w64, eq_self] <;> rfl) ?_)
        all_goals exact ⟨by rw [if_pos hq], rfl⟩
      · (refine FunH_body tyOk Try.func61 rfl (by kernel_rfl) Try.ntmps61 (fun hcl hbd => ?_); simp only [List.length_cons, List.length_nil, Nat.reduceAdd, Nat.reduceSub, List.replicate, List.cons_append, List.nil_append])
        repeat' (first
          | ((with_reducible refine hK _ _ ?_); clear hK K)
          | ((with_reducible refine hK _ ?_); clear hK K; try simp only [])
          | ((first | (with_reducible show AOp _ _ _ _ _ _ _) | (with_reducible show AQOp _ _ _ _ _ _ _)); simp (disch := first | omega | assumption | rfl | (exact liveO_setS (by assumption)) | (exact PtL.live (by assumption)) | (exact PtL.liveA (by assumption) _) | (simp only [go_sem]; first | done | omega)) only [go_sem, reduceIte, reduceCtorEq, Nat.reduceAdd, Nat.reduceMul, Nat.reduceSub, Nat.reduceLeDiff, Nat.lt_irrefl, Nat.reduceLT, Nat.reduceEqDiff, Nat.reduceBEq, Int.reduceLE, Int.reduceLT, Int.reduceToNat, w64, eq_self, h.isCell, h1.isCell, h2.isCell, h.lenm, h1.lenm, h2.lenm, e1, e2, hpe])
          | (with_reducible refine AW_seq (fun K hK => ?_))
          | (with_reducible refine AW_region tyOk ?_)
          | ((with_reducible refine AW_quiet (id := 4) tyOk ?_ ?_ ?_); (kernel_rfl); (kernel_rfl))
          | (with_reducible refine AOps_cons (fun K hK => ?_))
          | (with_reducible refine AQOps_cons (fun K hK => ?_))
          | ((with_reducible refine AQOps_nil ?_); try simp (disch := first | omega | assumption | rfl | (exact liveO_setS (by assumption)) | (exact PtL.live (by assumption)) | (exact PtL.liveA (by assumption) _) | (simp only [thenA, blockA, go_sem]; first | done | omega)) only [thenA, blockA, go_sem, reduceIte, reduceCtorEq, Nat.reduceAdd, Nat.reduceMul, Nat.reduceSub, Nat.reduceLeDiff, Nat.lt_irrefl, Nat.reduceLT, Nat.reduceEqDiff, Nat.reduceBEq, Int.reduceLE, Int.reduceLT, Int.reduceToNat, w64, eq_self, h.isCell, h1.isCell, h2.isCell, h.lenm, h1.lenm, h2.lenm, e1, e2, hpe])
          | ((with_reducible refine AOps_nil ?_); try simp (disch := first | omega | assumption | rfl | (exact liveO_setS (by assumption)) | (exact PtL.live (by assumption)) | (exact PtL.liveA (by assumption) _) | (simp only [thenA, blockA, go_sem]; first | done | omega)) only [thenA, blockA, go_sem, reduceIte, reduceCtorEq, Nat.reduceAdd, Nat.reduceMul, Nat.reduceSub, Nat.reduceLeDiff, Nat.lt_irrefl, Nat.reduceLT, Nat.reduceEqDiff, Nat.reduceBEq, Int.reduceLE, Int.reduceLT, Int.reduceToNat, w64, eq_self, h.isCell, h1.isCell, h2.isCell, h.lenm, h1.lenm, h2.lenm, e1, e2, hpe])
          | (with_reducible refine AW_block ?_)
          | ((first | (with_reducible refine AW_ret ?_) | (with_reducible refine AW_skip ?_) | (with_reducible refine AW_exit ?_)); try simp only [thenA, blockA, if_true, if_false, reduceIte, Nat.reduceEqDiff, reduceCtorEq])
          | ((with_reducible show AW _ _ (.cond _ _ _) _ _ _); refine AW_cond rfl (fun hg => ?_) (fun hg => ?_) <;> first | (exfalso; simp only [reduceCtorEq] at hg; done) | ((try simp only [Bool.not_eq_true', Bool.not_eq_false', decide_eq_true_eq, decide_eq_false_iff_not] at hg); try (exfalso; omega)))
          | ((with_reducible show _ ∧ _); refine And.intro (fun hg => ?_) (fun hg => ?_) <;> (try simp only [Bool.not_eq_true', Bool.not_eq_false'] at hg) <;> simp only [hg] <;> (try simp only [decide_eq_true_eq, decide_eq_false_iff_not] at hg) <;> (try (exfalso; omega)))
          | ((first | (with_reducible apply FunH_intro) | (with_reducible apply AQ_intro)); (first | exact IsFinite_c _ _ | exact rank_c _ _ _ _ (by first | assumption | exact RdL.app (by assumption) _ | exact RdL_hj rfl (by simp) | exact RdL_h0 rfl (by simp) | exact RdL_nil | exact RdL_emp) (by first | assumption | omega | (simp; omega) | (simp; done)) | exact iValidSummary_c _ _ _ _ _ _ _ _ _ (by first | assumption | exact RdL.app (by assumption) _ | exact RdL_hj rfl (by simp) | exact RdL_h0 rfl (by simp) | exact RdL_nil | exact RdL_emp) (by first | assumption | exact RdL.app (by assumption) _ | exact RdL_hj rfl (by simp) | exact RdL_h0 rfl (by simp) | exact RdL_nil | exact RdL_emp) (by first | assumption | exact RdL.app (by assumption) _ | exact RdL_hj rfl (by simp) | exact RdL_h0 rfl (by simp) | exact RdL_nil | exact RdL_emp) (by first | assumption | omega | (simp; omega) | (simp; done)) (by first | assumption | omega | (simp; omega) | (simp; done)) (by first | assumption | omega | (simp; omega) | (simp; done)) | exact ranks_c _ _ _ _ _ _ _ _ _ (by first | rfl | assumption | omega | (simp; done)) (by first | assumption | exact RdL.app (by assumption) _ | exact RdL_hj rfl (by simp) | exact RdL_h0 rfl (by simp) | exact RdL_nil | exact RdL_emp) (by first | assumption | exact RdL.app (by assumption) _ | exact RdL_hj rfl (by simp) | exact RdL_h0 rfl (by simp) | exact RdL_nil | exact RdL_emp) (by first | assumption | omega | (simp; omega) | (simp; done)) (by first | assumption | omega | (simp; omega) | (simp; done)) (by first | assumption | omega | (simp; omega) | (simp; done)) (by first | assumption | (simp; done)) (by first | assumption | (simp; done))))
          | (clear hK K)
          | fail)
        all_goals (first | refine EndA_cut hcl (by first | exact Or.inr rfl | exact Or.inl rfl) (by simp only [Try.results61, resA, aresL, go_sem, reduceIte, reduceCtorEq, Nat.reduceAdd, Nat.reduceMul, Nat.reduceSub, Nat.reduceLeDiff, Nat.lt_irrefl, Nat.reduceLT, Nat.reduceEqDiff, Nat.reduceBEq, Int.reduceLE, Int.reduceLT, Int.reduceToNat, w64, eq_self] <;> rfl) rfl ?_ | refine EndA_same (by first | exact Or.inr rfl | exact Or.inl rfl) (by simp only [Try.results61, resA, aresL, go_sem, reduceIte, reduceCtorEq, Nat.reduceAdd, Nat.reduceMul, Nat.reduceSub, Nat.reduceLeDiff, Nat.lt_irrefl, Nat.reduceLT, Nat.reduceEqDiff, Nat.reduceBEq, Int.reduceLE, Int.reduceLT, Int.reduceToNat, w64, eq_self] <;> rfl) ?_)
        all_goals exact ⟨by rw [if_neg hq], rfl⟩
set_option maxHeartbeats 4000000 in
theorem sSummaryRank_c (n c : Int) (x y z : LV) (vs : List (Option Nat)) (gs ss : List Int) (w : Option Nat) (H : Hp) (h : RdL H x (vs.map (LV.flt .f32))) (h1 : RdL H y (gs.map (LV.int .i64))) (h2 : RdL H z (ss.map (LV.int .i64))) (hn : vs.length ≤ 1048576) (hn1 : gs.length ≤ 1048576) (hn2 : ss.length ≤ 1048576) :
    FunH Try.prog 60 [.agg [.int .i64 n, .int .i64 c, x, y, z], .flt .f32 w] H fun r' H' => r' = .tup [.int .i64 (if srOk n c vs gs ss w then srLow gs (srP vs w) else 0), .int .i64 (if srOk n c vs gs ss w then srHigh c gs ss vs.length (srP vs w) else 0), .bool (srOk n c vs gs ss w)] ∧ H' = H := by
  cases e : srOk n c vs gs ss w
  · cases e1 : summB n c vs gs ss
    · (refine FunH_body tyOk Try.func60 rfl (by kernel_rfl) Try.ntmps60 (fun hcl hbd => ?_); simp only [List.length_cons, List.length_nil, Nat.reduceAdd, Nat.reduceSub, List.replicate, List.cons_append, List.nil_append])
      repeat' (first
        | ((with_reducible refine hK _ _ ?_); clear hK K)
        | ((first | (with_reducible show AOp _ _ _ _ _ _ _)); simp (disch := first | omega | assumption | rfl | (exact liveO_setS (by assumption)) | (exact PtL.live (by assumption)) | (exact PtL.liveA (by assumption) _) | (simp only [go_sem]; first | done | omega)) only [go_sem, reduceIte, reduceCtorEq, Nat.reduceAdd, Nat.reduceMul, Nat.reduceSub, Nat.reduceLeDiff, Nat.lt_irrefl, Nat.reduceLT, Nat.reduceEqDiff, Nat.reduceBEq, Int.reduceLE, Int.reduceLT, Int.reduceToNat, w64, eq_self, h.isCell, h1.isCell, h2.isCell, h.lenm, h1.lenm, h2.lenm, e1])
        | (with_reducible refine AW_seq (fun K hK => ?_))
        | (with_reducible refine AW_region tyOk ?_)
        | (with_reducible refine AOps_cons (fun K hK => ?_))
        | ((with_reducible refine AOps_nil ?_); try simp (disch := first | omega | assumption | rfl | (exact liveO_setS (by assumption)) | (exact PtL.live (by assumption)) | (exact PtL.liveA (by assumption) _) | (simp only [thenA, blockA, go_sem]; first | done | omega)) only [thenA, blockA, go_sem, reduceIte, reduceCtorEq, Nat.reduceAdd, Nat.reduceMul, Nat.reduceSub, Nat.reduceLeDiff, Nat.lt_irrefl, Nat.reduceLT, Nat.reduceEqDiff, Nat.reduceBEq, Int.reduceLE, Int.reduceLT, Int.reduceToNat, w64, eq_self, h.isCell, h1.isCell, h2.isCell, h.lenm, h1.lenm, h2.lenm, e1])
        | (with_reducible refine AW_block ?_)
        | ((first | (with_reducible refine AW_ret ?_) | (with_reducible refine AW_skip ?_) | (with_reducible refine AW_exit ?_)); try simp only [thenA, blockA, if_true, if_false, reduceIte, Nat.reduceEqDiff, reduceCtorEq])
        | ((with_reducible show AW _ _ (.cond _ _ _) _ _ _); refine AW_cond rfl (fun hg => ?_) (fun hg => ?_) <;> first | (exfalso; simp only [reduceCtorEq] at hg; done) | ((try simp only [Bool.not_eq_true', Bool.not_eq_false', decide_eq_true_eq, decide_eq_false_iff_not] at hg); try (exfalso; omega)))
        | ((with_reducible show _ ∧ _); refine And.intro (fun hg => ?_) (fun hg => ?_) <;> (try simp only [Bool.not_eq_true', Bool.not_eq_false'] at hg) <;> simp only [hg] <;> (try simp only [decide_eq_true_eq, decide_eq_false_iff_not] at hg) <;> (try (exfalso; omega)))
        | ((with_reducible apply FunH_intro); (first | exact l01Finite_c _ _ | exact l05Is_c _ _ _ _ _ _ _ _ _ _ _ (by first | assumption | exact PtL.app (by assumption) _ | exact PtL_h0 rfl | exact PtL_hj rfl) (by first | assumption | exact RdL.app (by assumption) _ | exact RdL_hj rfl (by simp) | exact RdL_h0 rfl (by simp) | exact RdL_nil | exact RdL_emp) (by first | assumption | exact RdL.app (by assumption) _ | exact RdL_hj rfl (by simp) | exact RdL_h0 rfl (by simp) | exact RdL_nil | exact RdL_emp) (by first | assumption | exact RdL.app (by assumption) _ | exact RdL_hj rfl (by simp) | exact RdL_h0 rfl (by simp) | exact RdL_nil | exact RdL_emp) (by first | assumption | omega | (simp; omega) | (simp; done)) (by first | assumption | omega | (simp; omega) | (simp; done)) (by first | assumption | omega | (simp; omega) | (simp; done)) | exact l05Ranks_c _ _ _ _ _ _ _ _ _ _ _ (by first | assumption | exact PtL.app (by assumption) _ | exact PtL_h0 rfl | exact PtL_hj rfl) (by first | assumption | exact RdL.app (by assumption) _ | exact RdL_hj rfl (by simp) | exact RdL_h0 rfl (by simp) | exact RdL_nil | exact RdL_emp) (by first | assumption | exact RdL.app (by assumption) _ | exact RdL_hj rfl (by simp) | exact RdL_h0 rfl (by simp) | exact RdL_nil | exact RdL_emp) (by first | assumption | omega | (simp; omega) | (simp; done)) (by first | assumption | omega | (simp; omega) | (simp; done)) (by first | assumption | omega | (simp; omega) | (simp; done)) (by first | assumption | (simp; done)) (by first | assumption | (simp; done))))
        | (clear hK K)
        | fail)
      all_goals (first | refine EndA_cut hcl (by first | exact Or.inr rfl | exact Or.inl rfl) (by simp only [Try.results60, resA, aresL, go_sem, reduceIte, reduceCtorEq, Nat.reduceAdd, Nat.reduceMul, Nat.reduceSub, Nat.reduceLeDiff, Nat.lt_irrefl, Nat.reduceLT, Nat.reduceEqDiff, Nat.reduceBEq, Int.reduceLE, Int.reduceLT, Int.reduceToNat, w64, eq_self] <;> rfl) rfl ?_ | refine EndA_same (by first | exact Or.inr rfl | exact Or.inl rfl) (by simp only [Try.results60, resA, aresL, go_sem, reduceIte, reduceCtorEq, Nat.reduceAdd, Nat.reduceMul, Nat.reduceSub, Nat.reduceLeDiff, Nat.lt_irrefl, Nat.reduceLT, Nat.reduceEqDiff, Nat.reduceBEq, Int.reduceLE, Int.reduceLT, Int.reduceToNat, w64, eq_self] <;> rfl) ?_)
      all_goals exact ⟨rfl, rfl⟩
    · have e2 : finO w = false := by unfold srOk at e; rw [e1] at e; simpa using e
      (refine FunH_body tyOk Try.func60 rfl (by kernel_rfl) Try.ntmps60 (fun hcl hbd => ?_); simp only [List.length_cons, List.length_nil, Nat.reduceAdd, Nat.reduceSub, List.replicate, List.cons_append, List.nil_append])
      repeat' (first
        | ((with_reducible refine hK _ _ ?_); clear hK K)
        | ((first | (with_reducible show AOp _ _ _ _ _ _ _)); simp (disch := first | omega | assumption | rfl | (exact liveO_setS (by assumption)) | (exact PtL.live (by assumption)) | (exact PtL.liveA (by assumption) _) | (simp only [go_sem]; first | done | omega)) only [go_sem, reduceIte, reduceCtorEq, Nat.reduceAdd, Nat.reduceMul, Nat.reduceSub, Nat.reduceLeDiff, Nat.lt_irrefl, Nat.reduceLT, Nat.reduceEqDiff, Nat.reduceBEq, Int.reduceLE, Int.reduceLT, Int.reduceToNat, w64, eq_self, h.isCell, h1.isCell, h2.isCell, h.lenm, h1.lenm, h2.lenm, e1, e2])
        | (with_reducible refine AW_seq (fun K hK => ?_))
        | (with_reducible refine AW_region tyOk ?_)
        | (with_reducible refine AOps_cons (fun K hK => ?_))
        | ((with_reducible refine AOps_nil ?_); try simp (disch := first | omega | assumption | rfl | (exact liveO_setS (by assumption)) | (exact PtL.live (by assumption)) | (exact PtL.liveA (by assumption) _) | (simp only [thenA, blockA, go_sem]; first | done | omega)) only [thenA, blockA, go_sem, reduceIte, reduceCtorEq, Nat.reduceAdd, Nat.reduceMul, Nat.reduceSub, Nat.reduceLeDiff, Nat.lt_irrefl, Nat.reduceLT, Nat.reduceEqDiff, Nat.reduceBEq, Int.reduceLE, Int.reduceLT, Int.reduceToNat, w64, eq_self, h.isCell, h1.isCell, h2.isCell, h.lenm, h1.lenm, h2.lenm, e1, e2])
        | (with_reducible refine AW_block ?_)
        | ((first | (with_reducible refine AW_ret ?_) | (with_reducible refine AW_skip ?_) | (with_reducible refine AW_exit ?_)); try simp only [thenA, blockA, if_true, if_false, reduceIte, Nat.reduceEqDiff, reduceCtorEq])
        | ((with_reducible show AW _ _ (.cond _ _ _) _ _ _); refine AW_cond rfl (fun hg => ?_) (fun hg => ?_) <;> first | (exfalso; simp only [reduceCtorEq] at hg; done) | ((try simp only [Bool.not_eq_true', Bool.not_eq_false', decide_eq_true_eq, decide_eq_false_iff_not] at hg); try (exfalso; omega)))
        | ((with_reducible show _ ∧ _); refine And.intro (fun hg => ?_) (fun hg => ?_) <;> (try simp only [Bool.not_eq_true', Bool.not_eq_false'] at hg) <;> simp only [hg] <;> (try simp only [decide_eq_true_eq, decide_eq_false_iff_not] at hg) <;> (try (exfalso; omega)))
        | ((with_reducible apply FunH_intro); (first | exact l01Finite_c _ _ | exact l05Is_c _ _ _ _ _ _ _ _ _ _ _ (by first | assumption | exact PtL.app (by assumption) _ | exact PtL_h0 rfl | exact PtL_hj rfl) (by first | assumption | exact RdL.app (by assumption) _ | exact RdL_hj rfl (by simp) | exact RdL_h0 rfl (by simp) | exact RdL_nil | exact RdL_emp) (by first | assumption | exact RdL.app (by assumption) _ | exact RdL_hj rfl (by simp) | exact RdL_h0 rfl (by simp) | exact RdL_nil | exact RdL_emp) (by first | assumption | exact RdL.app (by assumption) _ | exact RdL_hj rfl (by simp) | exact RdL_h0 rfl (by simp) | exact RdL_nil | exact RdL_emp) (by first | assumption | omega | (simp; omega) | (simp; done)) (by first | assumption | omega | (simp; omega) | (simp; done)) (by first | assumption | omega | (simp; omega) | (simp; done)) | exact l05Ranks_c _ _ _ _ _ _ _ _ _ _ _ (by first | assumption | exact PtL.app (by assumption) _ | exact PtL_h0 rfl | exact PtL_hj rfl) (by first | assumption | exact RdL.app (by assumption) _ | exact RdL_hj rfl (by simp) | exact RdL_h0 rfl (by simp) | exact RdL_nil | exact RdL_emp) (by first | assumption | exact RdL.app (by assumption) _ | exact RdL_hj rfl (by simp) | exact RdL_h0 rfl (by simp) | exact RdL_nil | exact RdL_emp) (by first | assumption | omega | (simp; omega) | (simp; done)) (by first | assumption | omega | (simp; omega) | (simp; done)) (by first | assumption | omega | (simp; omega) | (simp; done)) (by first | assumption | (simp; done)) (by first | assumption | (simp; done))))
        | (clear hK K)
        | fail)
      all_goals (first | refine EndA_cut hcl (by first | exact Or.inr rfl | exact Or.inl rfl) (by simp only [Try.results60, resA, aresL, go_sem, reduceIte, reduceCtorEq, Nat.reduceAdd, Nat.reduceMul, Nat.reduceSub, Nat.reduceLeDiff, Nat.lt_irrefl, Nat.reduceLT, Nat.reduceEqDiff, Nat.reduceBEq, Int.reduceLE, Int.reduceLT, Int.reduceToNat, w64, eq_self] <;> rfl) rfl ?_ | refine EndA_same (by first | exact Or.inr rfl | exact Or.inl rfl) (by simp only [Try.results60, resA, aresL, go_sem, reduceIte, reduceCtorEq, Nat.reduceAdd, Nat.reduceMul, Nat.reduceSub, Nat.reduceLeDiff, Nat.lt_irrefl, Nat.reduceLT, Nat.reduceEqDiff, Nat.reduceBEq, Int.reduceLE, Int.reduceLT, Int.reduceToNat, w64, eq_self] <;> rfl) ?_)
      all_goals exact ⟨rfl, rfl⟩
  · have e1 : summB n c vs gs ss = true ∧ finO w = true := by unfold srOk at e; simpa using e
    obtain ⟨e1, e2⟩ := e1
    obtain ⟨a1, a2, a3, a4, a5, a6, a7, a8, a9, a10⟩ := summB_all e1
    obtain ⟨b1, b2⟩ := summB_big e1
    have hrk := asc_rank a6 e2
    simp only [if_true]
    unfold srLow srHigh srP
    have hp : (vs.countP fun y => fLe .f32 y w) ≤ vs.length := List.countP_le_length
    obtain ⟨p, hpe⟩ : ∃ p, (vs.countP fun y => fLe .f32 y w) = p := ⟨_, rfl⟩
    rw [hpe] at hp hrk ⊢
    (refine FunH_body tyOk Try.func60 rfl (by kernel_rfl) Try.ntmps60 (fun hcl hbd => ?_); simp only [List.length_cons, List.length_nil, Nat.reduceAdd, Nat.reduceSub, List.replicate, List.cons_append, List.nil_append])
    repeat' (first
      | ((with_reducible refine hK _ _ ?_); clear hK K)
      | ((first | (with_reducible show AOp _ _ _ _ _ _ _)); simp (disch := first | omega | assumption | rfl | (exact liveO_setS (by assumption)) | (exact PtL.live (by assumption)) | (exact PtL.liveA (by assumption) _) | (simp only [go_sem]; first | done | omega)) only [go_sem, reduceIte, reduceCtorEq, Nat.reduceAdd, Nat.reduceMul, Nat.reduceSub, Nat.reduceLeDiff, Nat.lt_irrefl, Nat.reduceLT, Nat.reduceEqDiff, Nat.reduceBEq, Int.reduceLE, Int.reduceLT, Int.reduceToNat, w64, eq_self, h.isCell, h1.isCell, h2.isCell, h.lenm, h1.lenm, h2.lenm, e1, e2])
      | (with_reducible refine AW_seq (fun K hK => ?_))
      | (with_reducible refine AW_region tyOk ?_)
      | (with_reducible refine AOps_cons (fun K hK => ?_))
      | ((with_reducible refine AOps_nil ?_); try simp (disch := first | omega | assumption | rfl | (exact liveO_setS (by assumption)) | (exact PtL.live (by assumption)) | (exact PtL.liveA (by assumption) _) | (simp only [thenA, blockA, go_sem]; first | done | omega)) only [thenA, blockA, go_sem, reduceIte, reduceCtorEq, Nat.reduceAdd, Nat.reduceMul, Nat.reduceSub, Nat.reduceLeDiff, Nat.lt_irrefl, Nat.reduceLT, Nat.reduceEqDiff, Nat.reduceBEq, Int.reduceLE, Int.reduceLT, Int.reduceToNat, w64, eq_self, h.isCell, h1.isCell, h2.isCell, h.lenm, h1.lenm, h2.lenm, e1, e2])
      | (with_reducible refine AW_block ?_)
      | ((first | (with_reducible refine AW_ret ?_) | (with_reducible refine AW_skip ?_) | (with_reducible refine AW_exit ?_)); try simp only [thenA, blockA, if_true, if_false, reduceIte, Nat.reduceEqDiff, reduceCtorEq])
      | ((with_reducible show AW _ _ (.cond _ _ _) _ _ _); refine AW_cond rfl (fun hg => ?_) (fun hg => ?_) <;> first | (exfalso; simp only [reduceCtorEq] at hg; done) | ((try simp only [Bool.not_eq_true', Bool.not_eq_false', decide_eq_true_eq, decide_eq_false_iff_not] at hg); try (exfalso; omega)))
      | ((with_reducible show _ ∧ _); refine And.intro (fun hg => ?_) (fun hg => ?_) <;> (try simp only [Bool.not_eq_true', Bool.not_eq_false'] at hg) <;> simp only [hg] <;> (try simp only [decide_eq_true_eq, decide_eq_false_iff_not] at hg) <;> (try (exfalso; omega)))
      | ((with_reducible apply FunH_intro); (first | exact l01Finite_c _ _ | exact l05Is_c _ _ _ _ _ _ _ _ _ _ _ (by first | assumption | exact PtL.app (by assumption) _ | exact PtL_h0 rfl | exact PtL_hj rfl) (by first | assumption | exact RdL.app (by assumption) _ | exact RdL_hj rfl (by simp) | exact RdL_h0 rfl (by simp) | exact RdL_nil | exact RdL_emp) (by first | assumption | exact RdL.app (by assumption) _ | exact RdL_hj rfl (by simp) | exact RdL_h0 rfl (by simp) | exact RdL_nil | exact RdL_emp) (by first | assumption | exact RdL.app (by assumption) _ | exact RdL_hj rfl (by simp) | exact RdL_h0 rfl (by simp) | exact RdL_nil | exact RdL_emp) (by first | assumption | omega | (simp; omega) | (simp; done)) (by first | assumption | omega | (simp; omega) | (simp; done)) (by first | assumption | omega | (simp; omega) | (simp; done)) | exact l05Ranks_c _ _ _ _ _ _ _ _ _ _ _ (by first | assumption | exact PtL.app (by assumption) _ | exact PtL_h0 rfl | exact PtL_hj rfl) (by first | assumption | exact RdL.app (by assumption) _ | exact RdL_hj rfl (by simp) | exact RdL_h0 rfl (by simp) | exact RdL_nil | exact RdL_emp) (by first | assumption | exact RdL.app (by assumption) _ | exact RdL_hj rfl (by simp) | exact RdL_h0 rfl (by simp) | exact RdL_nil | exact RdL_emp) (by first | assumption | omega | (simp; omega) | (simp; done)) (by first | assumption | omega | (simp; omega) | (simp; done)) (by first | assumption | omega | (simp; omega) | (simp; done)) (by first | assumption | (simp; done)) (by first | assumption | (simp; done))))
      | (clear hK K)
      | fail)
    refine AW_loopV [7, 8, 9, 10, 11, 12, 25, 26, 27, 28, 29, 30, 31, 32, 33, 34, 35, 36, 37, 38, 39, 40, 41, 42, 43, 44, 45] (fun k : Nat => [(7, .int .i64 (sumI (gs.take (min k p)))), (8, .int .i64 (srH2 c gs ss k p)), (9, .bool (decide (p < k))), (25, .int .i64 (k : Nat))]) (fun _ => H ++ [⟨0, false, 50, 5, [.int .i64 n, .int .i64 c, x, y, z]⟩]) (fun k => k ≤ vs.length) (fun k => vs.length - k) 0 (Nat.zero_le _) ?_ rfl ?_
    · simp only [junkAll, setAll, List.foldl_cons, List.foldl_nil, List.set_cons_succ, List.set_cons_zero, JL, true_or, or_true, and_true, true_and, reduceCtorEq, false_or, or_false, LV.int.injEq, LV.bool.injEq, LV.flt.injEq, LV.sl.injEq, LV.ptr.injEq, eq_self, Int.natCast_add, Int.natCast_one, Int.natCast_zero, Int.ofNat_zero]; simp [srH2, sumI]
    · intro k hk K hK
      simp only [junkAll, setAll, List.foldl_cons, List.foldl_nil, List.set_cons_succ, List.set_cons_zero]
      by_cases hks : k < vs.length
      · have hr := hrk k hks
        have hs := sumI_fit hn1 b1 (k + 1) (by omega)
        have hc' := b2 _ (ix_mem ss k (by omega))
        by_cases hkp : k < p
        · rw [decide_eq_true hkp] at hr
          repeat' (first
            | ((with_reducible refine hK _ _ ?_); clear hK K)
            | ((first | (with_reducible show AOp _ _ _ _ _ _ _)); simp (disch := first | omega | assumption | rfl | (exact liveO_setS (by assumption)) | (exact PtL.live (by assumption)) | (exact PtL.liveA (by assumption) _) | (simp only [go_sem]; first | done | omega)) only [go_sem, reduceIte, reduceCtorEq, Nat.reduceAdd, Nat.reduceMul, Nat.reduceSub, Nat.reduceLeDiff, Nat.lt_irrefl, Nat.reduceLT, Nat.reduceEqDiff, Nat.reduceBEq, Int.reduceLE, Int.reduceLT, Int.reduceToNat, w64, eq_self, h.lenm, h.idxmA, h.ldmA, hr])
            | (with_reducible refine AW_seq (fun K hK => ?_))
            | (with_reducible refine AW_region tyOk ?_)
            | (with_reducible refine AOps_cons (fun K hK => ?_))
            | ((with_reducible refine AOps_nil ?_); try simp (disch := first | omega | assumption | rfl | (exact liveO_setS (by assumption)) | (exact PtL.live (by assumption)) | (exact PtL.liveA (by assumption) _) | (simp only [thenA, blockA, go_sem]; first | done | omega)) only [thenA, blockA, go_sem, reduceIte, reduceCtorEq, Nat.reduceAdd, Nat.reduceMul, Nat.reduceSub, Nat.reduceLeDiff, Nat.lt_irrefl, Nat.reduceLT, Nat.reduceEqDiff, Nat.reduceBEq, Int.reduceLE, Int.reduceLT, Int.reduceToNat, w64, eq_self, h.lenm, h.idxmA, h.ldmA, hr])
            | (with_reducible refine AW_block ?_)
            | ((first | (with_reducible refine AW_ret ?_) | (with_reducible refine AW_skip ?_) | (with_reducible refine AW_exit ?_)); try simp only [thenA, blockA, if_true, if_false, reduceIte, Nat.reduceEqDiff, reduceCtorEq])
            | ((with_reducible show AW _ _ (.cond _ _ _) _ _ _); refine AW_cond rfl (fun hg => ?_) (fun hg => ?_) <;> first | (exfalso; simp only [reduceCtorEq] at hg; done) | ((try simp only [Bool.not_eq_true', Bool.not_eq_false', decide_eq_true_eq, decide_eq_false_iff_not] at hg); try (exfalso; omega)))
            | ((with_reducible show _ ∧ _); refine And.intro (fun hg => ?_) (fun hg => ?_) <;> (try simp only [Bool.not_eq_true', Bool.not_eq_false'] at hg) <;> simp only [hg] <;> (try simp only [decide_eq_true_eq, decide_eq_false_iff_not] at hg) <;> (try (exfalso; omega)))
            | ((with_reducible apply FunH_intro); (first | exact l05Ranks_c _ _ _ _ _ _ _ _ _ k _ (PtL_h0 rfl) (h1.app _) (h2.app _) (by omega) (by omega) (by omega) b1 b2 | exact l01Finite_c _ _ | exact l05Is_c _ _ _ _ _ _ _ _ _ _ _ (by first | assumption | exact PtL.app (by assumption) _ | exact PtL_h0 rfl | exact PtL_hj rfl) (by first | assumption | exact RdL.app (by assumption) _ | exact RdL_hj rfl (by simp) | exact RdL_h0 rfl (by simp) | exact RdL_nil | exact RdL_emp) (by first | assumption | exact RdL.app (by assumption) _ | exact RdL_hj rfl (by simp) | exact RdL_h0 rfl (by simp) | exact RdL_nil | exact RdL_emp) (by first | assumption | exact RdL.app (by assumption) _ | exact RdL_hj rfl (by simp) | exact RdL_h0 rfl (by simp) | exact RdL_nil | exact RdL_emp) (by first | assumption | omega | (simp; omega) | (simp; done)) (by first | assumption | omega | (simp; omega) | (simp; done)) (by first | assumption | omega | (simp; omega) | (simp; done)) | exact l05Ranks_c _ _ _ _ _ _ _ _ _ _ _ (by first | assumption | exact PtL.app (by assumption) _ | exact PtL_h0 rfl | exact PtL_hj rfl) (by first | assumption | exact RdL.app (by assumption) _ | exact RdL_hj rfl (by simp) | exact RdL_h0 rfl (by simp) | exact RdL_nil | exact RdL_emp) (by first | assumption | exact RdL.app (by assumption) _ | exact RdL_hj rfl (by simp) | exact RdL_h0 rfl (by simp) | exact RdL_nil | exact RdL_emp) (by first | assumption | omega | (simp; omega) | (simp; done)) (by first | assumption | omega | (simp; omega) | (simp; done)) (by first | assumption | omega | (simp; omega) | (simp; done)) (by first | assumption | (simp; done)) (by first | assumption | (simp; done))))
            | (clear hK K)
            | fail)
          refine hK _ _ (k + 1) (by omega) (by omega) ?_ rfl
          simp only [junkAll, setAll, List.foldl_cons, List.foldl_nil, List.set_cons_succ, List.set_cons_zero, JL, true_or, or_true, and_true, true_and, reduceCtorEq, false_or, or_false, LV.int.injEq, LV.bool.injEq, LV.flt.injEq, LV.sl.injEq, LV.ptr.injEq, eq_self, Int.natCast_add, Int.natCast_one, Int.natCast_zero, Int.ofNat_zero]
          refine ⟨by rw [show min (k + 1) p = k + 1 by omega], ?_, ?_⟩
          · unfold srH2; rw [if_neg (show ¬ p < k by omega), if_neg (show ¬ p < k + 1 by omega)]
          · exact decide_eq_decide.2 (by omega)
        · rw [decide_eq_false hkp] at hr
          by_cases hkp2 : p < k
          · repeat' (first
              | ((with_reducible refine hK _ _ ?_); clear hK K)
              | ((first | (with_reducible show AOp _ _ _ _ _ _ _)); simp (disch := first | omega | assumption | rfl | (exact liveO_setS (by assumption)) | (exact PtL.live (by assumption)) | (exact PtL.liveA (by assumption) _) | (simp only [go_sem]; first | done | omega)) only [go_sem, reduceIte, reduceCtorEq, Nat.reduceAdd, Nat.reduceMul, Nat.reduceSub, Nat.reduceLeDiff, Nat.lt_irrefl, Nat.reduceLT, Nat.reduceEqDiff, Nat.reduceBEq, Int.reduceLE, Int.reduceLT, Int.reduceToNat, w64, eq_self, h.lenm, h.idxmA, h.ldmA, hr, decide_eq_true hkp2])
              | (with_reducible refine AW_seq (fun K hK => ?_))
              | (with_reducible refine AW_region tyOk ?_)
              | (with_reducible refine AOps_cons (fun K hK => ?_))
              | ((with_reducible refine AOps_nil ?_); try simp (disch := first | omega | assumption | rfl | (exact liveO_setS (by assumption)) | (exact PtL.live (by assumption)) | (exact PtL.liveA (by assumption) _) | (simp only [thenA, blockA, go_sem]; first | done | omega)) only [thenA, blockA, go_sem, reduceIte, reduceCtorEq, Nat.reduceAdd, Nat.reduceMul, Nat.reduceSub, Nat.reduceLeDiff, Nat.lt_irrefl, Nat.reduceLT, Nat.reduceEqDiff, Nat.reduceBEq, Int.reduceLE, Int.reduceLT, Int.reduceToNat, w64, eq_self, h.lenm, h.idxmA, h.ldmA, hr, decide_eq_true hkp2])
              | (with_reducible refine AW_block ?_)
              | ((first | (with_reducible refine AW_ret ?_) | (with_reducible refine AW_skip ?_) | (with_reducible refine AW_exit ?_)); try simp only [thenA, blockA, if_true, if_false, reduceIte, Nat.reduceEqDiff, reduceCtorEq])
              | ((with_reducible show AW _ _ (.cond _ _ _) _ _ _); refine AW_cond rfl (fun hg => ?_) (fun hg => ?_) <;> first | (exfalso; simp only [reduceCtorEq] at hg; done) | ((try simp only [Bool.not_eq_true', Bool.not_eq_false', decide_eq_true_eq, decide_eq_false_iff_not] at hg); try (exfalso; omega)))
              | ((with_reducible show _ ∧ _); refine And.intro (fun hg => ?_) (fun hg => ?_) <;> (try simp only [Bool.not_eq_true', Bool.not_eq_false'] at hg) <;> simp only [hg] <;> (try simp only [decide_eq_true_eq, decide_eq_false_iff_not] at hg) <;> (try (exfalso; omega)))
              | ((with_reducible apply FunH_intro); (first | exact l05Ranks_c _ _ _ _ _ _ _ _ _ k _ (PtL_h0 rfl) (h1.app _) (h2.app _) (by omega) (by omega) (by omega) b1 b2 | exact l01Finite_c _ _ | exact l05Is_c _ _ _ _ _ _ _ _ _ _ _ (by first | assumption | exact PtL.app (by assumption) _ | exact PtL_h0 rfl | exact PtL_hj rfl) (by first | assumption | exact RdL.app (by assumption) _ | exact RdL_hj rfl (by simp) | exact RdL_h0 rfl (by simp) | exact RdL_nil | exact RdL_emp) (by first | assumption | exact RdL.app (by assumption) _ | exact RdL_hj rfl (by simp) | exact RdL_h0 rfl (by simp) | exact RdL_nil | exact RdL_emp) (by first | assumption | exact RdL.app (by assumption) _ | exact RdL_hj rfl (by simp) | exact RdL_h0 rfl (by simp) | exact RdL_nil | exact RdL_emp) (by first | assumption | omega | (simp; omega) | (simp; done)) (by first | assumption | omega | (simp; omega) | (simp; done)) (by first | assumption | omega | (simp; omega) | (simp; done)) | exact l05Ranks_c _ _ _ _ _ _ _ _ _ _ _ (by first | assumption | exact PtL.app (by assumption) _ | exact PtL_h0 rfl | exact PtL_hj rfl) (by first | assumption | exact RdL.app (by assumption) _ | exact RdL_hj rfl (by simp) | exact RdL_h0 rfl (by simp) | exact RdL_nil | exact RdL_emp) (by first | assumption | exact RdL.app (by assumption) _ | exact RdL_hj rfl (by simp) | exact RdL_h0 rfl (by simp) | exact RdL_nil | exact RdL_emp) (by first | assumption | omega | (simp; omega) | (simp; done)) (by first | assumption | omega | (simp; omega) | (simp; done)) (by first | assumption | omega | (simp; omega) | (simp; done)) (by first | assumption | (simp; done)) (by first | assumption | (simp; done))))
              | (clear hK K)
              | fail)
            refine hK _ _ (k + 1) (by omega) (by omega) ?_ rfl
            simp only [junkAll, setAll, List.foldl_cons, List.foldl_nil, List.set_cons_succ, List.set_cons_zero, JL, true_or, or_true, and_true, true_and, reduceCtorEq, false_or, or_false, LV.int.injEq, LV.bool.injEq, LV.flt.injEq, LV.sl.injEq, LV.ptr.injEq, eq_self, Int.natCast_add, Int.natCast_one, Int.natCast_zero, Int.ofNat_zero]
            refine ⟨by rw [show min (k + 1) p = min k p by omega], ?_, ?_⟩
            · unfold srH2; rw [if_pos (show p < k by omega), if_pos (show p < k + 1 by omega)]
            · first | exact decide_eq_decide.2 (by omega) | (simp; omega)
          · have ekp : p = k := by omega
            subst ekp
            repeat' (first
              | ((with_reducible refine hK _ _ ?_); clear hK K)
              | ((first | (with_reducible show AOp _ _ _ _ _ _ _)); simp (disch := first | omega | assumption | rfl | (exact liveO_setS (by assumption)) | (exact PtL.live (by assumption)) | (exact PtL.liveA (by assumption) _) | (simp only [go_sem]; first | done | omega)) only [go_sem, reduceIte, reduceCtorEq, Nat.reduceAdd, Nat.reduceMul, Nat.reduceSub, Nat.reduceLeDiff, Nat.lt_irrefl, Nat.reduceLT, Nat.reduceEqDiff, Nat.reduceBEq, Int.reduceLE, Int.reduceLT, Int.reduceToNat, w64, eq_self, h.lenm, h.idxmA, h.ldmA, hr, decide_eq_false hkp2])
              | (with_reducible refine AW_seq (fun K hK => ?_))
              | (with_reducible refine AW_region tyOk ?_)
              | (with_reducible refine AOps_cons (fun K hK => ?_))
              | ((with_reducible refine AOps_nil ?_); try simp (disch := first | omega | assumption | rfl | (exact liveO_setS (by assumption)) | (exact PtL.live (by assumption)) | (exact PtL.liveA (by assumption) _) | (simp only [thenA, blockA, go_sem]; first | done | omega)) only [thenA, blockA, go_sem, reduceIte, reduceCtorEq, Nat.reduceAdd, Nat.reduceMul, Nat.reduceSub, Nat.reduceLeDiff, Nat.lt_irrefl, Nat.reduceLT, Nat.reduceEqDiff, Nat.reduceBEq, Int.reduceLE, Int.reduceLT, Int.reduceToNat, w64, eq_self, h.lenm, h.idxmA, h.ldmA, hr, decide_eq_false hkp2])
              | (with_reducible refine AW_block ?_)
              | ((first | (with_reducible refine AW_ret ?_) | (with_reducible refine AW_skip ?_) | (with_reducible refine AW_exit ?_)); try simp only [thenA, blockA, if_true, if_false, reduceIte, Nat.reduceEqDiff, reduceCtorEq])
              | ((with_reducible show AW _ _ (.cond _ _ _) _ _ _); refine AW_cond rfl (fun hg => ?_) (fun hg => ?_) <;> first | (exfalso; simp only [reduceCtorEq] at hg; done) | ((try simp only [Bool.not_eq_true', Bool.not_eq_false', decide_eq_true_eq, decide_eq_false_iff_not] at hg); try (exfalso; omega)))
              | ((with_reducible show _ ∧ _); refine And.intro (fun hg => ?_) (fun hg => ?_) <;> (try simp only [Bool.not_eq_true', Bool.not_eq_false'] at hg) <;> simp only [hg] <;> (try simp only [decide_eq_true_eq, decide_eq_false_iff_not] at hg) <;> (try (exfalso; omega)))
              | ((with_reducible apply FunH_intro); (first | exact l05Ranks_c _ _ _ _ _ _ _ _ _ p _ (PtL_h0 rfl) (h1.app _) (h2.app _) (by omega) (by omega) (by omega) b1 b2 | exact l01Finite_c _ _ | exact l05Is_c _ _ _ _ _ _ _ _ _ _ _ (by first | assumption | exact PtL.app (by assumption) _ | exact PtL_h0 rfl | exact PtL_hj rfl) (by first | assumption | exact RdL.app (by assumption) _ | exact RdL_hj rfl (by simp) | exact RdL_h0 rfl (by simp) | exact RdL_nil | exact RdL_emp) (by first | assumption | exact RdL.app (by assumption) _ | exact RdL_hj rfl (by simp) | exact RdL_h0 rfl (by simp) | exact RdL_nil | exact RdL_emp) (by first | assumption | exact RdL.app (by assumption) _ | exact RdL_hj rfl (by simp) | exact RdL_h0 rfl (by simp) | exact RdL_nil | exact RdL_emp) (by first | assumption | omega | (simp; omega) | (simp; done)) (by first | assumption | omega | (simp; omega) | (simp; done)) (by first | assumption | omega | (simp; omega) | (simp; done)) | exact l05Ranks_c _ _ _ _ _ _ _ _ _ _ _ (by first | assumption | exact PtL.app (by assumption) _ | exact PtL_h0 rfl | exact PtL_hj rfl) (by first | assumption | exact RdL.app (by assumption) _ | exact RdL_hj rfl (by simp) | exact RdL_h0 rfl (by simp) | exact RdL_nil | exact RdL_emp) (by first | assumption | exact RdL.app (by assumption) _ | exact RdL_hj rfl (by simp) | exact RdL_h0 rfl (by simp) | exact RdL_nil | exact RdL_emp) (by first | assumption | omega | (simp; omega) | (simp; done)) (by first | assumption | omega | (simp; omega) | (simp; done)) (by first | assumption | omega | (simp; omega) | (simp; done)) (by first | assumption | (simp; done)) (by first | assumption | (simp; done))))
              | (clear hK K)
              | fail)
            refine hK _ _ (p + 1) (by omega) (by omega) ?_ rfl
            simp only [junkAll, setAll, List.foldl_cons, List.foldl_nil, List.set_cons_succ, List.set_cons_zero, JL, true_or, or_true, and_true, true_and, reduceCtorEq, false_or, or_false, LV.int.injEq, LV.bool.injEq, LV.flt.injEq, LV.sl.injEq, LV.ptr.injEq, eq_self, Int.natCast_add, Int.natCast_one, Int.natCast_zero, Int.ofNat_zero]
            refine ⟨by rw [show min (p + 1) p = min p p by omega], ?_, ?_⟩
            · unfold srH2; rw [if_pos (show p < p + 1 by omega)]
            · simp
      · have ek : k = vs.length := by omega
        repeat' (first
          | ((with_reducible refine hK _ _ ?_); clear hK K)
          | ((first | (with_reducible show AOp _ _ _ _ _ _ _)); simp (disch := first | omega | assumption | rfl | (exact liveO_setS (by assumption)) | (exact PtL.live (by assumption)) | (exact PtL.liveA (by assumption) _) | (simp only [go_sem]; first | done | omega)) only [go_sem, reduceIte, reduceCtorEq, Nat.reduceAdd, Nat.reduceMul, Nat.reduceSub, Nat.reduceLeDiff, Nat.lt_irrefl, Nat.reduceLT, Nat.reduceEqDiff, Nat.reduceBEq, Int.reduceLE, Int.reduceLT, Int.reduceToNat, w64, eq_self, h.lenm, h.idxmA, h.ldmA])
          | (with_reducible refine AW_seq (fun K hK => ?_))
          | (with_reducible refine AW_region tyOk ?_)
          | (with_reducible refine AOps_cons (fun K hK => ?_))
          | ((with_reducible refine AOps_nil ?_); try simp (disch := first | omega | assumption | rfl | (exact liveO_setS (by assumption)) | (exact PtL.live (by assumption)) | (exact PtL.liveA (by assumption) _) | (simp only [thenA, blockA, go_sem]; first | done | omega)) only [thenA, blockA, go_sem, reduceIte, reduceCtorEq, Nat.reduceAdd, Nat.reduceMul, Nat.reduceSub, Nat.reduceLeDiff, Nat.lt_irrefl, Nat.reduceLT, Nat.reduceEqDiff, Nat.reduceBEq, Int.reduceLE, Int.reduceLT, Int.reduceToNat, w64, eq_self, h.lenm, h.idxmA, h.ldmA])
          | (with_reducible refine AW_block ?_)
          | ((first | (with_reducible refine AW_ret ?_) | (with_reducible refine AW_skip ?_) | (with_reducible refine AW_exit ?_)); try simp only [thenA, blockA, if_true, if_false, reduceIte, Nat.reduceEqDiff, reduceCtorEq])
          | ((with_reducible show AW _ _ (.cond _ _ _) _ _ _); refine AW_cond rfl (fun hg => ?_) (fun hg => ?_) <;> first | (exfalso; simp only [reduceCtorEq] at hg; done) | ((try simp only [Bool.not_eq_true', Bool.not_eq_false', decide_eq_true_eq, decide_eq_false_iff_not] at hg); try (exfalso; omega)))
          | ((with_reducible show _ ∧ _); refine And.intro (fun hg => ?_) (fun hg => ?_) <;> (try simp only [Bool.not_eq_true', Bool.not_eq_false'] at hg) <;> simp only [hg] <;> (try simp only [decide_eq_true_eq, decide_eq_false_iff_not] at hg) <;> (try (exfalso; omega)))
          | ((with_reducible apply FunH_intro); (first | exact l01Finite_c _ _ | exact l05Is_c _ _ _ _ _ _ _ _ _ _ _ (by first | assumption | exact PtL.app (by assumption) _ | exact PtL_h0 rfl | exact PtL_hj rfl) (by first | assumption | exact RdL.app (by assumption) _ | exact RdL_hj rfl (by simp) | exact RdL_h0 rfl (by simp) | exact RdL_nil | exact RdL_emp) (by first | assumption | exact RdL.app (by assumption) _ | exact RdL_hj rfl (by simp) | exact RdL_h0 rfl (by simp) | exact RdL_nil | exact RdL_emp) (by first | assumption | exact RdL.app (by assumption) _ | exact RdL_hj rfl (by simp) | exact RdL_h0 rfl (by simp) | exact RdL_nil | exact RdL_emp) (by first | assumption | omega | (simp; omega) | (simp; done)) (by first | assumption | omega | (simp; omega) | (simp; done)) (by first | assumption | omega | (simp; omega) | (simp; done)) | exact l05Ranks_c _ _ _ _ _ _ _ _ _ _ _ (by first | assumption | exact PtL.app (by assumption) _ | exact PtL_h0 rfl | exact PtL_hj rfl) (by first | assumption | exact RdL.app (by assumption) _ | exact RdL_hj rfl (by simp) | exact RdL_h0 rfl (by simp) | exact RdL_nil | exact RdL_emp) (by first | assumption | exact RdL.app (by assumption) _ | exact RdL_hj rfl (by simp) | exact RdL_h0 rfl (by simp) | exact RdL_nil | exact RdL_emp) (by first | assumption | omega | (simp; omega) | (simp; done)) (by first | assumption | omega | (simp; omega) | (simp; done)) (by first | assumption | omega | (simp; omega) | (simp; done)) (by first | assumption | (simp; done)) (by first | assumption | (simp; done))))
          | (clear hK K)
          | fail)
        all_goals (refine EndA_cut hcl (by first | exact Or.inr rfl | exact Or.inl rfl) (by simp only [Try.results60, resA, aresL, go_sem, reduceIte, reduceCtorEq, Nat.reduceAdd, Nat.reduceMul, Nat.reduceSub, Nat.reduceLeDiff, Nat.lt_irrefl, Nat.reduceLT, Nat.reduceEqDiff, Nat.reduceBEq, Int.reduceLE, Int.reduceLT, Int.reduceToNat, w64, eq_self] <;> rfl) rfl ?_)
        all_goals (refine ⟨?_, rfl⟩; rw [ek, show min vs.length p = p by omega]; rfl)
end Go.Proofs.Ytleldjglhkmgmaa
