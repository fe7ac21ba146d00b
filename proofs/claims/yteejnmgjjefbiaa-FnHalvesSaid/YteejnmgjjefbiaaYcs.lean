/- Levels settled in the abstract machine: the program's side. -/
import Derived.Test.YteejnmgjjefbiaaZy
import Derived.Test.YteejnmgjjefbiaaSvs
import Derived.Test.YteejnmgjjefbiaaNu
namespace Go.Proofs.Yteejnmgjjefbiaa
open Go.RowKit
set_option linter.unusedSimpArgs false
set_option linter.unusedVariables false
set_option maxRecDepth 100000

set_option maxHeartbeats 8000000 in
theorem settle_c (Hb X : Hp) (A v q N : Nat) (s : Int) (P : List (Nat × Nat × List Nat)) (h : LS Hb X A v P) (hq : 1 ≤ q ∧ q ≤ 10) (hs : 0 ≤ s ∧ s ≤ 4294967295) (hT : P.length + totW (wR P) ≤ 1048576) (hN : 2 * totW (wR P) + P.length ≤ N) :
    FunH Try.prog 19 [.agg [.int .i64 (2 * q : Nat), .int .i64 s, .sl A v 0 P.length none]] X (stQ Hb A (2 * q : Nat) (stl q N 0 (wR P) s)) := by
  obtain ⟨R, hR⟩ : ∃ R, stl q N 0 (wR P) s = R := ⟨_, rfl⟩
  rw [hR]
  (refine FunH_body tyOk Try.func19 rfl (by kernel_rfl) Try.ntmps19 (fun hcl hbd => ?_); simp only [List.length_cons, List.length_nil, Nat.reduceAdd, Nat.reduceSub, List.replicate, List.cons_append, List.nil_append])
  repeat' (first
 | ((with_reducible refine hK _ _ ?_); clear hK K)
 | ((first | (with_reducible show AOp _ _ _ _ _ _ _)); simp (disch := first | ((with_reducible show liveO _ _ _ = true); first | assumption | (exact hS.lvB) | (exact hS.lvA) | (exact hS.lvBA _) | (exact hS.lvAA _) | (exact hS.bSl _ _) | (exact lvI) | (exact lvJ _) | (exact bSl _ _) | (exact aSl _ _) | (exact hS.lvR) | (exact liveO_setS (by assumption)) | (exact PtL.live (by assumption)) | (exact PtL.liveA (by assumption) _) | (simp only [go_sem]; done)) | omega | assumption | rfl | (simp only [go_sem]; first | done | omega)) only [go_sem, reduceIte, reduceCtorEq, Nat.reduceAdd, Nat.reduceMul, Nat.reduceSub, Nat.reduceLeDiff, Nat.lt_irrefl, Nat.reduceLT, Nat.reduceEqDiff, Nat.reduceBEq, Int.reduceLE, Int.reduceLT, Int.reduceToNat, w64, eq_self])
 | (with_reducible refine AW_seq (fun K hK => ?_))
 | (with_reducible refine AW_region tyOk ?_)
 | (with_reducible refine AOps_cons (fun K hK => ?_))
 | ((with_reducible refine AOps_nil ?_); try simp only [thenA, blockA, if_true, if_false, reduceIte, Nat.reduceEqDiff, reduceCtorEq])
 | (with_reducible refine AW_block ?_)
 | ((first | (with_reducible refine AW_ret ?_) | (with_reducible refine AW_skip ?_) | (with_reducible refine AW_exit ?_)); try simp only [thenA, blockA, if_true, if_false, reduceIte, Nat.reduceEqDiff, reduceCtorEq])
 | ((with_reducible show AW _ _ (.cond _ _ _) _ _ _); refine AW_cond rfl (fun hg => ?_) (fun hg => ?_) <;> first | (exfalso; simp only [reduceCtorEq] at hg; done) | ((try simp only [Bool.not_eq_true', Bool.not_eq_false', decide_eq_true_eq, decide_eq_false_iff_not] at hg); try (exfalso; omega)))
 | ((with_reducible show _ ∧ _); refine And.intro (fun hg => ?_) (fun hg => ?_) <;> (try simp only [Bool.not_eq_true', Bool.not_eq_false'] at hg) <;> simp only [hg] <;> (try simp only [decide_eq_true_eq, decide_eq_false_iff_not] at hg) <;> (try (exfalso; omega)))
 | (clear hK K)
    | fail)
  refine AW_loopV [4, 5, 6, 7, 8, 9, 10, 11, 12, 13, 14, 15, 16, 17, 18, 19, 20, 21, 22, 23, 24, 25, 26, 27, 28, 29, 30, 31, 32, 33, 34, 35, 36, 37, 38, 39, 40, 41, 42, 43, 44, 45, 46, 47, 48, 49, 50, 51, 52, 53, 54, 55, 56, 57, 58, 59, 60, 61, 62, 63, 64, 65, 66, 67, 68, 69, 70, 71, 72, 73, 74, 75, 76, 77, 78, 79, 80, 81, 82, 83, 84, 85, 86, 87] (fun p : Nat × Nat × Hp × Int × Nat × List (Nat × Nat × List Nat) => [(4, .int .i64 (p.2.1 : Nat))]) (fun p => p.2.2.1)
    (fun p => SS Hb p.2.2.1 X.length (2 * q : Nat) p.2.2.2.1 A p.2.2.2.2.1 p.2.2.2.2.2 ∧ stl q p.1 p.2.1 (wR p.2.2.2.2.2) p.2.2.2.1 = R ∧ p.2.1 ≤ p.2.2.2.2.2.length ∧ (0 ≤ p.2.2.2.1 ∧ p.2.2.2.1 ≤ 4294967295) ∧ p.2.2.2.2.2.length + totW (wR p.2.2.2.2.2) ≤ 1048576 ∧ 2 * totW (wR p.2.2.2.2.2) + (p.2.2.2.2.2.length - p.2.1) ≤ p.1) (fun p => p.1) (N, 0, X ++ [bxL (2 * q : Nat) s A v P.length, rsL], s, v, P)
    ⟨h.start _ _, hR, Nat.zero_le _, hs, hT, by simp only; omega⟩ ?_ rfl ?_
  · simp only [junkAll, setAll, List.foldl_cons, List.foldl_nil, List.set_cons_succ, List.set_cons_zero, JL, true_or, or_true, and_true, true_and, reduceCtorEq, false_or, or_false, LV.int.injEq, LV.bool.injEq, LV.flt.injEq, LV.sl.injEq, LV.ptr.injEq, eq_self, Int.natCast_add, Int.natCast_one, Int.natCast_zero, Int.ofNat_zero]
  clear hT hN hs h hR
  intro ⟨n, g, Z, s, v, P⟩ ⟨hS, hR, hgP, hs, hT, hN⟩ K hK
  simp only at hS hR hgP hs hT hN
  simp only [junkAll, setAll, List.foldl_cons, List.foldl_nil, List.set_cons_succ, List.set_cons_zero]
  by_cases hgl : g < P.length
  · repeat' (first
 | ((with_reducible refine hK _ _ ?_); clear hK K)
 | ((first | (with_reducible show AOp _ _ _ _ _ _ _)); simp (disch := first | ((with_reducible show liveO _ _ _ = true); first | assumption | (exact hS.lvB) | (exact hS.lvA) | (exact hS.lvBA _) | (exact hS.lvAA _) | (exact hS.bSl _ _) | (exact lvI) | (exact lvJ _) | (exact bSl _ _) | (exact aSl _ _) | (exact hS.lvR) | (exact liveO_setS (by assumption)) | (exact PtL.live (by assumption)) | (exact PtL.liveA (by assumption) _) | (simp only [go_sem]; done)) | omega | assumption | rfl | (simp only [go_sem]; first | done | omega)) only [go_sem, reduceIte, reduceCtorEq, Nat.reduceAdd, Nat.reduceMul, Nat.reduceSub, Nat.reduceLeDiff, Nat.lt_irrefl, Nat.reduceLT, Nat.reduceEqDiff, Nat.reduceBEq, Int.reduceLE, Int.reduceLT, Int.reduceToNat, w64, eq_self, hS.gB])
 | (with_reducible refine AW_seq (fun K hK => ?_))
 | (with_reducible refine AW_region tyOk ?_)
 | (with_reducible refine AOps_cons (fun K hK => ?_))
 | ((with_reducible refine AOps_nil ?_); try simp only [thenA, blockA, if_true, if_false, reduceIte, Nat.reduceEqDiff, reduceCtorEq])
 | (with_reducible refine AW_block ?_)
 | ((first | (with_reducible refine AW_ret ?_) | (with_reducible refine AW_skip ?_) | (with_reducible refine AW_exit ?_)); try simp only [thenA, blockA, if_true, if_false, reduceIte, Nat.reduceEqDiff, reduceCtorEq])
 | ((with_reducible show AW _ _ (.cond _ _ _) _ _ _); refine AW_cond rfl (fun hg => ?_) (fun hg => ?_) <;> first | (exfalso; simp only [reduceCtorEq] at hg; done) | ((try simp only [Bool.not_eq_true', Bool.not_eq_false', decide_eq_true_eq, decide_eq_false_iff_not] at hg); try (exfalso; omega)))
 | ((with_reducible show _ ∧ _); refine And.intro (fun hg => ?_) (fun hg => ?_) <;> (try simp only [Bool.not_eq_true', Bool.not_eq_false'] at hg) <;> simp only [hg] <;> (try simp only [decide_eq_true_eq, decide_eq_false_iff_not] at hg) <;> (try (exfalso; omega)))
 | (clear hK K)
      | fail)
    refine AW_loopV [5, 6, 14, 15, 16, 17, 18, 19, 20, 21, 22, 23, 24, 25, 26, 27, 28, 29, 30, 31, 32, 33, 34, 35, 36, 37, 38, 39, 40, 41, 42, 43, 44, 45, 46, 47, 48, 49, 50, 51, 52, 53, 54, 55, 56, 57, 58, 59, 60, 61, 62, 63, 64, 65, 66, 67, 68, 69, 70, 71, 72, 73, 74, 75, 76, 77, 78, 79, 80, 81, 82, 83, 84, 85, 86, 87] (fun p : Nat × Hp × Int × Nat × List (Nat × Nat × List Nat) => []) (fun p => p.2.1)
      (fun p => SS Hb p.2.1 X.length (2 * q : Nat) p.2.2.1 A p.2.2.2.1 p.2.2.2.2 ∧ stl q p.1 g (wR p.2.2.2.2) p.2.2.1 = R ∧ g < p.2.2.2.2.length ∧ (0 ≤ p.2.2.1 ∧ p.2.2.1 ≤ 4294967295) ∧ p.2.2.2.2.length + totW (wR p.2.2.2.2) ≤ 1048576 ∧ 2 * totW (wR p.2.2.2.2) + (p.2.2.2.2.length - g) ≤ p.1 ∧ p.1 ≤ n) (fun p => p.1) (n, Z, s, v, P)
      ⟨hS, hR, hgl, hs, hT, hN, Nat.le_refl _⟩ ?_ rfl ?_
    · simp only [junkAll, setAll, List.foldl_cons, List.foldl_nil, List.set_cons_succ, List.set_cons_zero, JL, true_or, or_true, and_true, true_and, reduceCtorEq, false_or, or_false, LV.int.injEq, LV.bool.injEq, LV.flt.injEq, LV.sl.injEq, LV.ptr.injEq, eq_self, Int.natCast_add, Int.natCast_one, Int.natCast_zero, Int.ofNat_zero]
    clear hT hN hs hS hR hgP hgl
    intro ⟨n1, Z, s, v, P⟩ ⟨hS, hR, hgP, hs, hT, hN, hnn⟩ K hK
    simp only at hS hR hgP hs hT hN hnn
    simp only [junkAll, setAll, List.foldl_cons, List.foldl_nil, List.set_cons_succ, List.set_cons_zero]
    obtain ⟨m, rfl⟩ : ∃ m, n1 = m + 1 := ⟨n1 - 1, by omega⟩
    obtain ⟨i0, v0, w0, hi⟩ : ∃ i0 v0 w0, ix P g = (i0, v0, w0) := ⟨_, _, _, rfl⟩
    have hcell : (P.map cR)[g]? = some (.sl i0 v0 0 w0.length none) := by rw [List.getElem?_map, ix_get? _ _ hgP, hi]; rfl
    have hw : ix (wR P) g = w0 := by rw [wR_ix hgP, hi]
    have hwl : w0.length ≤ 1048576 := by have := totW_at (ls := wR P) (k := g) (by rw [wR_len]; exact hgP); rw [hw] at this; omega
    have hgn : ((g : Nat) : Int).toNat = g := by omega
    by_cases hfull : 2 * q ≤ w0.length
    · repeat' (first
 | ((with_reducible refine hK _ _ ?_); clear hK K)
 | ((with_reducible refine hK _ ?_); clear hK K; try simp only [])
 | ((first | (with_reducible show AOp _ _ _ _ _ _ _) | (with_reducible show AQOp _ _ _ _ _ _ _)); simp (disch := first | ((with_reducible show liveO _ _ _ = true); first | assumption | (exact hS.lvB) | (exact hS.lvA) | (exact hS.lvBA _) | (exact hS.lvAA _) | (exact hS.bSl _ _) | (exact lvI) | (exact lvJ _) | (exact bSl _ _) | (exact aSl _ _) | (exact hS.lvR) | (exact liveO_setS (by assumption)) | (exact PtL.live (by assumption)) | (exact PtL.liveA (by assumption) _) | (simp only [go_sem]; done)) | omega | assumption | rfl | (simp only [go_sem]; first | done | omega)) only [go_sem, reduceIte, reduceCtorEq, Nat.reduceAdd, Nat.reduceMul, Nat.reduceSub, Nat.reduceLeDiff, Nat.lt_irrefl, Nat.reduceLT, Nat.reduceEqDiff, Nat.reduceBEq, Int.reduceLE, Int.reduceLT, Int.reduceToNat, w64, eq_self, hS.gB, hS.gA, hcell, hgn])
 | ((with_reducible refine AW_seqN [5] ?_ (fun K hK => ?_)); (exact rfl))
 | (with_reducible refine AW_region tyOk ?_)
 | ((with_reducible refine AW_quiet (id := 4) tyOk ?_ ?_ ?_); (kernel_rfl); (kernel_rfl))
 | (with_reducible refine AOps_cons (fun K hK => ?_))
 | (with_reducible refine AQOps_cons (fun K hK => ?_))
 | ((with_reducible refine AQOps_nil ?_); try simp only [thenA, blockA, if_true, if_false, reduceIte, Nat.reduceEqDiff, reduceCtorEq])
 | ((with_reducible refine AOps_nil ?_); try simp only [thenA, blockA, if_true, if_false, reduceIte, Nat.reduceEqDiff, reduceCtorEq])
 | (with_reducible refine AW_block ?_)
 | ((first | (with_reducible refine AW_ret ?_) | (with_reducible refine AW_skip ?_) | (with_reducible refine AW_exit ?_)); try simp only [thenA, blockA, if_true, if_false, reduceIte, Nat.reduceEqDiff, reduceCtorEq])
 | ((with_reducible show AW _ _ (.cond _ _ _) _ _ _); refine AW_cond rfl (fun hg => ?_) (fun hg => ?_) <;> first | (exfalso; simp only [reduceCtorEq] at hg; done) | ((try simp only [Bool.not_eq_true', Bool.not_eq_false', decide_eq_true_eq, decide_eq_false_iff_not] at hg); try (exfalso; omega)))
 | ((with_reducible show _ ∧ _); refine And.intro (fun hg => ?_) (fun hg => ?_) <;> (try simp only [Bool.not_eq_true', Bool.not_eq_false'] at hg) <;> simp only [hg] <;> (try simp only [decide_eq_true_eq, decide_eq_false_iff_not] at hg) <;> (try (exfalso; omega)))
 | (clear hK K)
        | fail)
      refine AW_seqM [23, 24, 25, 26, 27, 28, 29, 30, 31, 32, 33] (fun p : Hp × Nat × List (Nat × Nat × List Nat) => []) (fun p => p.1) (fun p => ∃ Z1 v1 P1, SS Hb Z1 X.length (2 * q : Nat) s A v1 P1 ∧ wR P1 = grw g (wR P) ∧ ix P1 g = (i0, v0, w0) ∧ ∀ tm, Wk X tm p.1 tm Z1) (fun K hK => ?_) (fun p hp => ?_)
      · by_cases hlast : g + 1 = P.length
        · have hbe : (((g : Nat) : Int) + 1 == ((P.length : Nat) : Int)) = true := by (simp; omega)
          have oA : ∀ L : Hp, (Z ++ L)[A]? = some ⟨v, false, 25, 1, P.map cR⟩ := at_app hS.ls.out
          have hcl : (P.map cR).length = P.length := List.length_map ..
          have hcc := cR_cells P
          have hPn : P.length ≤ 1048576 := by omega
          repeat' (first
 | ((with_reducible refine hK _ _ ?_); clear hK K)
 | ((first | (with_reducible show AOp _ _ _ _ _ _ _)); simp (disch := first | ((with_reducible show liveO _ _ _ = true); first | assumption | (exact hS.lvB) | (exact hS.lvA) | (exact hS.lvBA _) | (exact hS.lvAA _) | (exact hS.bSl _ _) | (exact lvI) | (exact lvJ _) | (exact bSl _ _) | (exact aSl _ _) | (exact hS.lvR) | (exact liveO_setS (by assumption)) | (exact PtL.live (by assumption)) | (exact PtL.liveA (by assumption) _) | (simp only [go_sem]; done)) | omega | assumption | rfl | (simp only [go_sem]; first | done | omega)) only [go_sem, reduceIte, reduceCtorEq, Nat.reduceAdd, Nat.reduceMul, Nat.reduceSub, Nat.reduceLeDiff, Nat.lt_irrefl, Nat.reduceLT, Nat.reduceEqDiff, Nat.reduceBEq, Int.reduceLE, Int.reduceLT, Int.reduceToNat, w64, eq_self, hS.gB, hS.gA, hS.bSp, hcell, hgn, hbe, oA, hcl, hcc])
 | (with_reducible refine AW_seq (fun K hK => ?_))
 | (with_reducible refine AW_region tyOk ?_)
 | (with_reducible refine AOps_cons (fun K hK => ?_))
 | ((with_reducible refine AOps_nil ?_); try simp only [thenA, blockA, if_true, if_false, reduceIte, Nat.reduceEqDiff, reduceCtorEq])
 | (with_reducible refine AW_block ?_)
 | ((first | (with_reducible refine AW_ret ?_) | (with_reducible refine AW_skip ?_) | (with_reducible refine AW_exit ?_)); try simp only [thenA, blockA, if_true, if_false, reduceIte, Nat.reduceEqDiff, reduceCtorEq])
 | ((with_reducible show AW _ _ (.cond _ _ _) _ _ _); refine AW_cond rfl (fun hg => ?_) (fun hg => ?_) <;> first | (exfalso; simp only [reduceCtorEq] at hg; done) | ((try simp only [Bool.not_eq_true', Bool.not_eq_false', decide_eq_true_eq, decide_eq_false_iff_not] at hg); try (exfalso; omega)))
 | ((with_reducible show _ ∧ _); refine And.intro (fun hg => ?_) (fun hg => ?_) <;> (try simp only [Bool.not_eq_true', Bool.not_eq_false'] at hg) <;> simp only [hg] <;> (try simp only [decide_eq_true_eq, decide_eq_false_iff_not] at hg) <;> (try (exfalso; omega)))
 | (clear hK K)
            | fail)
          have hS0 := hS.app [(⟨0, false, 25, 1, [LV.nils]⟩ : AO)]
          refine hK _ _ (_, v, P) ⟨_, v + 1, P ++ [((Z ++ [(⟨0, false, 25, 1, [LV.nils]⟩ : AO)]).length, 0, [])], hS0.grow, ?_, ?_, fun tm => ?_⟩ ?_ rfl
          · unfold grw wR; rw [if_pos (by rw [List.length_map]; exact hlast), List.map_append]; rfl
          · rw [ix_appL hgP, hi]
          · rw [← hS0.grown]
            refine Wk.virtC (o := ⟨v + 1, false, 25, 1, P.map cR ++ [LV.nils]⟩) A P.length 32 1 ?_ ?_
            · rw [List.getElem?_set_ne (Ne.symm hS0.nA.1), List.getElem?_set_self hS0.ls.ltA]
            · simp
          · simp only [junkAll, setAll, List.foldl_cons, List.foldl_nil, List.set_cons_succ, List.set_cons_zero, JL, true_or, or_true, and_true, true_and, reduceCtorEq, false_or, or_false, LV.int.injEq, LV.bool.injEq, LV.flt.injEq, LV.sl.injEq, LV.ptr.injEq, eq_self, Int.natCast_add, Int.natCast_one, Int.natCast_zero, Int.ofNat_zero]
        · have hbe : (((g : Nat) : Int) + 1 == ((P.length : Nat) : Int)) = false := by (simp; omega)
          repeat' (first
 | ((with_reducible refine hK _ _ ?_); clear hK K)
 | ((first | (with_reducible show AOp _ _ _ _ _ _ _)); simp (disch := first | ((with_reducible show liveO _ _ _ = true); first | assumption | (exact hS.lvB) | (exact hS.lvA) | (exact hS.lvBA _) | (exact hS.lvAA _) | (exact hS.bSl _ _) | (exact lvI) | (exact lvJ _) | (exact bSl _ _) | (exact aSl _ _) | (exact hS.lvR) | (exact liveO_setS (by assumption)) | (exact PtL.live (by assumption)) | (exact PtL.liveA (by assumption) _) | (simp only [go_sem]; done)) | omega | assumption | rfl | (simp only [go_sem]; first | done | omega)) only [go_sem, reduceIte, reduceCtorEq, Nat.reduceAdd, Nat.reduceMul, Nat.reduceSub, Nat.reduceLeDiff, Nat.lt_irrefl, Nat.reduceLT, Nat.reduceEqDiff, Nat.reduceBEq, Int.reduceLE, Int.reduceLT, Int.reduceToNat, w64, eq_self, hS.gB, hS.gA, hcell, hgn, hbe])
 | (with_reducible refine AW_seq (fun K hK => ?_))
 | (with_reducible refine AW_region tyOk ?_)
 | (with_reducible refine AOps_cons (fun K hK => ?_))
 | ((with_reducible refine AOps_nil ?_); try simp only [thenA, blockA, if_true, if_false, reduceIte, Nat.reduceEqDiff, reduceCtorEq])
 | (with_reducible refine AW_block ?_)
 | ((first | (with_reducible refine AW_ret ?_) | (with_reducible refine AW_skip ?_) | (with_reducible refine AW_exit ?_)); try simp only [thenA, blockA, if_true, if_false, reduceIte, Nat.reduceEqDiff, reduceCtorEq])
 | ((with_reducible show AW _ _ (.cond _ _ _) _ _ _); refine AW_cond rfl (fun hg => ?_) (fun hg => ?_) <;> first | (exfalso; simp only [reduceCtorEq] at hg; done) | ((try simp only [Bool.not_eq_true', Bool.not_eq_false', decide_eq_true_eq, decide_eq_false_iff_not] at hg); try (exfalso; omega)))
 | ((with_reducible show _ ∧ _); refine And.intro (fun hg => ?_) (fun hg => ?_) <;> (try simp only [Bool.not_eq_true', Bool.not_eq_false'] at hg) <;> simp only [hg] <;> (try simp only [decide_eq_true_eq, decide_eq_false_iff_not] at hg) <;> (try (exfalso; omega)))
 | (clear hK K)
            | fail)
          refine hK _ _ (Z, v, P) ⟨Z, v, P, hS, ?_, hi, fun _ => Wk.refl⟩ ?_ rfl
          · unfold grw; rw [if_neg (by rw [wR_len]; exact hlast)]
          · simp only [junkAll, setAll, List.foldl_cons, List.foldl_nil, List.set_cons_succ, List.set_cons_zero, JL, true_or, or_true, and_true, true_and, reduceCtorEq, false_or, or_false, LV.int.injEq, LV.bool.injEq, LV.flt.injEq, LV.sl.injEq, LV.ptr.injEq, eq_self, Int.natCast_add, Int.natCast_one, Int.natCast_zero, Int.ofNat_zero]
      clear hcell
      obtain ⟨Z1, v1, P1, hS1, hW, hi1, hwk⟩ := hp
      refine AW.weak (hwk _) ?_
      clear hS
      obtain ⟨hS, -⟩ : SS Hb Z1 X.length (2 * q : Nat) s A v1 P1 ∧ True := ⟨hS1, trivial⟩
      have hPl : P1.length = if g + 1 = P.length then P.length + 1 else P.length := by rw [← wR_len P1, hW, grw_len, wR_len]
      have hg1 : g + 1 < P1.length := by rw [hPl]; split <;> omega
      have hg0 : g < P1.length := by omega
      have hcell : (P1.map cR)[g]? = some (.sl i0 v0 0 w0.length none) := by rw [List.getElem?_map, ix_get? _ _ hg0, hi1]; rfl
      have oI := hS.lvk hg0 hi1
      have lvI : liveO Z1 i0 v0 = true := liveO_at oI
      have lvJ : ∀ L : Hp, liveO (Z1 ++ L) i0 v0 = true := fun L => liveO_at (at_app oI L)
      have sl7 : ∀ (te : TE), te.sz = 1 → asliceS te Z1 (.sl i0 v0 0 w0.length none) none (some (.int .i64 ((2 * q : Nat) : Int))) none = some (.sl i0 v0 0 (2 * q) none) := fun te hs1 => by
        rw [asliceS_hi lvI (by rw [szO_at oI, hs1]) (by omega) (by omega), Int.toNat_natCast]
      have sl8 : ∀ (te : TE) (L : Hp), te.sz = 1 → asliceS te (Z1 ++ L) (.sl i0 v0 0 w0.length none) (some (.int .i64 ((2 * q : Nat) : Int))) none none = some (.sl i0 v0 (2 * q) (w0.length - 2 * q) none) := fun te L hs1 => by
        rw [asliceS_lo (lvJ L) (by rw [szO_at (at_app oI L), hs1]) (by omega) (by omega), hs1, Int.toNat_natCast, Nat.zero_add, Nat.mul_one]
      obtain ⟨fst, hfst⟩ : ∃ fst, w0.take (2 * q) = fst := ⟨_, rfl⟩
      obtain ⟨rst, hrst⟩ : ∃ rst, w0.drop (2 * q) = rst := ⟨_, rfl⟩
      have hfl : fst.length = 2 * q := by rw [← hfst, List.length_take]; omega
      have hrl : rst.length = w0.length - 2 * q := by rw [← hrst, List.length_drop]
      have r7 : RdL Z1 (.sl i0 v0 0 (2 * q) none) (fst.map Fw) := by
        have := RdL_pre oI (m := 2 * q) (by rw [List.length_map]; omega)
        rw [← List.map_take, hfst] at this; exact this
      have r8 : ∀ L, RdL (Z1 ++ L) (.sl i0 v0 (2 * q) (w0.length - 2 * q) none) ((rst.map some).map (LV.flt .f32)) := fun L => by
        have := RdL_suf (at_app oI L) (m := 2 * q) (by rw [List.length_map]; omega)
        rw [← List.map_drop, hrst, List.length_map] at this; rw [Fw_map]; exact this
      have c7 := sorted_c _ _ _ r7 (by omega)
      rw [hfl] at c7
      obtain ⟨S, hSd⟩ : ∃ S, srt kW fst = S := ⟨_, rfl⟩
      rw [hSd] at c7
      have c8 := fun L => Clone_float32_c _ _ _ (r8 L) (by rw [List.length_map]; omega)
      rw [List.length_map, Fw_map] at c8
      simp only [junkAll, setAll, List.foldl_cons, List.foldl_nil, List.set_cons_succ, List.set_cons_zero]
      repeat' (first
 | ((with_reducible refine hK _ _ ?_); clear hK K)
 | ((with_reducible refine hK _ ?_); clear hK K; try simp only [])
 | ((with_reducible refine hK _ _ ?_ ?_); (first | exact Or.inl rfl | exact Or.inr (by (first | exact ⟨_, rfl⟩ | exact ⟨_, by rw [List.append_assoc]; rfl⟩ | exact ⟨_, by simp only [List.append_assoc, List.cons_append, List.nil_append]; rfl⟩ | exact ⟨_, by rw [hp_setj, List.append_assoc]; rfl⟩ | exact ⟨_, hp_setj _ _ _ _⟩ | exact ⟨[], (List.append_nil _).symm⟩))); clear hK K)
 | ((first | (with_reducible show AOp _ _ _ _ _ _ _) | (with_reducible show AQOp _ _ _ _ _ _ _)); simp (disch := first | ((with_reducible show liveO _ _ _ = true); first | assumption | (exact hS.lvB) | (exact hS.lvA) | (exact hS.lvBA _) | (exact hS.lvAA _) | (exact hS.bSl _ _) | (exact lvI) | (exact lvJ _) | (exact bSl _ _) | (exact aSl _ _) | (exact hS.lvR) | (exact liveO_setS (by assumption)) | (exact PtL.live (by assumption)) | (exact PtL.liveA (by assumption) _) | (simp only [go_sem]; done)) | omega | assumption | rfl | (simp only [go_sem]; first | done | omega)) only [go_sem, reduceIte, reduceCtorEq, Nat.reduceAdd, Nat.reduceMul, Nat.reduceSub, Nat.reduceLeDiff, Nat.lt_irrefl, Nat.reduceLT, Nat.reduceEqDiff, Nat.reduceBEq, Int.reduceLE, Int.reduceLT, Int.reduceToNat, w64, eq_self, hS.gB, hS.gA, hS.gBA, hS.gAA, hcell, hgn, sl7, sl8, hS.pA hg0])
 | ((with_reducible refine AW_seqN [9] ?_ (fun K hK => ?_)); (exact rfl))
 | (with_reducible refine AW_region tyOk ?_)
 | ((with_reducible refine AW_drawn (id := 7) tyOk 8 ?_ ?_ ?_); (kernel_rfl); (kernel_rfl); simp only [List.take_succ_cons, List.take_zero, List.drop_succ_cons, List.drop_zero])
 | ((with_reducible apply AW_treeX (id := 8) tyOk 14 13); (kernel_rfl); (exact rfl))
 | ((with_reducible refine AAnyX_leaf (by decide +kernel) ?_); (first | (with_reducible exact Wk.refl)))
 | (with_reducible refine AAnyX_quiet 0 rfl rfl rfl (by decide +kernel) (by decide +kernel) (by decide +kernel) (by (first | exact ⟨_, rfl⟩ | exact ⟨_, by rw [List.append_assoc]; rfl⟩ | exact ⟨_, by simp only [List.append_assoc, List.cons_append, List.nil_append]; rfl⟩ | exact ⟨_, by rw [hp_setj, List.append_assoc]; rfl⟩ | exact ⟨_, hp_setj _ _ _ _⟩ | exact ⟨[], (List.append_nil _).symm⟩)) (fun K hK => ?_))
 | (with_reducible refine AAnyX_quiet 1 rfl rfl rfl (by decide +kernel) (by decide +kernel) (by decide +kernel) (by (first | exact ⟨_, rfl⟩ | exact ⟨_, by rw [List.append_assoc]; rfl⟩ | exact ⟨_, by simp only [List.append_assoc, List.cons_append, List.nil_append]; rfl⟩ | exact ⟨_, by rw [hp_setj, List.append_assoc]; rfl⟩ | exact ⟨_, hp_setj _ _ _ _⟩ | exact ⟨[], (List.append_nil _).symm⟩)) (fun K hK => ?_))
 | (with_reducible refine AAnyX_quiet 2 rfl rfl rfl (by decide +kernel) (by decide +kernel) (by decide +kernel) (by (first | exact ⟨_, rfl⟩ | exact ⟨_, by rw [List.append_assoc]; rfl⟩ | exact ⟨_, by simp only [List.append_assoc, List.cons_append, List.nil_append]; rfl⟩ | exact ⟨_, by rw [hp_setj, List.append_assoc]; rfl⟩ | exact ⟨_, hp_setj _ _ _ _⟩ | exact ⟨[], (List.append_nil _).symm⟩)) (fun K hK => ?_))
 | (with_reducible refine AAnyX_quiet 3 rfl rfl rfl (by decide +kernel) (by decide +kernel) (by decide +kernel) (by (first | exact ⟨_, rfl⟩ | exact ⟨_, by rw [List.append_assoc]; rfl⟩ | exact ⟨_, by simp only [List.append_assoc, List.cons_append, List.nil_append]; rfl⟩ | exact ⟨_, by rw [hp_setj, List.append_assoc]; rfl⟩ | exact ⟨_, hp_setj _ _ _ _⟩ | exact ⟨[], (List.append_nil _).symm⟩)) (fun K hK => ?_))
 | (with_reducible refine AAnyX_quiet 4 rfl rfl rfl (by decide +kernel) (by decide +kernel) (by decide +kernel) (by (first | exact ⟨_, rfl⟩ | exact ⟨_, by rw [List.append_assoc]; rfl⟩ | exact ⟨_, by simp only [List.append_assoc, List.cons_append, List.nil_append]; rfl⟩ | exact ⟨_, by rw [hp_setj, List.append_assoc]; rfl⟩ | exact ⟨_, hp_setj _ _ _ _⟩ | exact ⟨[], (List.append_nil _).symm⟩)) (fun K hK => ?_))
 | (with_reducible refine AAnyX_quiet 5 rfl rfl rfl (by decide +kernel) (by decide +kernel) (by decide +kernel) (by (first | exact ⟨_, rfl⟩ | exact ⟨_, by rw [List.append_assoc]; rfl⟩ | exact ⟨_, by simp only [List.append_assoc, List.cons_append, List.nil_append]; rfl⟩ | exact ⟨_, by rw [hp_setj, List.append_assoc]; rfl⟩ | exact ⟨_, hp_setj _ _ _ _⟩ | exact ⟨[], (List.append_nil _).symm⟩)) (fun K hK => ?_))
 | (with_reducible refine AAnyX_quiet 6 rfl rfl rfl (by decide +kernel) (by decide +kernel) (by decide +kernel) (by (first | exact ⟨_, rfl⟩ | exact ⟨_, by rw [List.append_assoc]; rfl⟩ | exact ⟨_, by simp only [List.append_assoc, List.cons_append, List.nil_append]; rfl⟩ | exact ⟨_, by rw [hp_setj, List.append_assoc]; rfl⟩ | exact ⟨_, hp_setj _ _ _ _⟩ | exact ⟨[], (List.append_nil _).symm⟩)) (fun K hK => ?_))
 | (with_reducible refine AAnyX_quiet 7 rfl rfl rfl (by decide +kernel) (by decide +kernel) (by decide +kernel) (by (first | exact ⟨_, rfl⟩ | exact ⟨_, by rw [List.append_assoc]; rfl⟩ | exact ⟨_, by simp only [List.append_assoc, List.cons_append, List.nil_append]; rfl⟩ | exact ⟨_, by rw [hp_setj, List.append_assoc]; rfl⟩ | exact ⟨_, hp_setj _ _ _ _⟩ | exact ⟨[], (List.append_nil _).symm⟩)) (fun K hK => ?_))
 | (with_reducible refine AAnyX_quiet 8 rfl rfl rfl (by decide +kernel) (by decide +kernel) (by decide +kernel) (by (first | exact ⟨_, rfl⟩ | exact ⟨_, by rw [List.append_assoc]; rfl⟩ | exact ⟨_, by simp only [List.append_assoc, List.cons_append, List.nil_append]; rfl⟩ | exact ⟨_, by rw [hp_setj, List.append_assoc]; rfl⟩ | exact ⟨_, hp_setj _ _ _ _⟩ | exact ⟨[], (List.append_nil _).symm⟩)) (fun K hK => ?_))
 | (with_reducible refine AAnyX_quiet 9 rfl rfl rfl (by decide +kernel) (by decide +kernel) (by decide +kernel) (by (first | exact ⟨_, rfl⟩ | exact ⟨_, by rw [List.append_assoc]; rfl⟩ | exact ⟨_, by simp only [List.append_assoc, List.cons_append, List.nil_append]; rfl⟩ | exact ⟨_, by rw [hp_setj, List.append_assoc]; rfl⟩ | exact ⟨_, hp_setj _ _ _ _⟩ | exact ⟨[], (List.append_nil _).symm⟩)) (fun K hK => ?_))
 | (with_reducible refine AAnyX_quiet 12 rfl rfl rfl (by decide +kernel) (by decide +kernel) (by decide +kernel) (by (first | exact ⟨_, rfl⟩ | exact ⟨_, by rw [List.append_assoc]; rfl⟩ | exact ⟨_, by simp only [List.append_assoc, List.cons_append, List.nil_append]; rfl⟩ | exact ⟨_, by rw [hp_setj, List.append_assoc]; rfl⟩ | exact ⟨_, hp_setj _ _ _ _⟩ | exact ⟨[], (List.append_nil _).symm⟩)) (fun K hK => ?_))
 | (with_reducible refine AAnyX_step 10 [] (by decide +kernel) ?_)
 | (with_reducible refine AAnyX_step 11 [] (by decide +kernel) ?_)
 | (with_reducible refine AAnyX_step 13 [] (by decide +kernel) ?_)
 | (with_reducible refine AAllX_cons rfl (fun K hK => ?_) ?_)
 | (with_reducible exact AAllX_nil)
 | ((with_reducible show thenA _ _ _ _ _); simp only [thenA, blockA, if_true, if_false, reduceIte])
 | ((with_reducible show blockA _ _ _ _ _); simp only [thenA, blockA, if_true, if_false, reduceIte, Nat.reduceEqDiff, reduceCtorEq])
 | (with_reducible refine AOps_cons (fun K hK => ?_))
 | (with_reducible refine AQOps_cons (fun K hK => ?_))
 | ((with_reducible refine AQOps_nil ?_); try simp only [thenA, blockA, if_true, if_false, reduceIte, Nat.reduceEqDiff, reduceCtorEq])
 | ((with_reducible refine AOps_nil ?_); try simp only [thenA, blockA, if_true, if_false, reduceIte, Nat.reduceEqDiff, reduceCtorEq])
 | (with_reducible refine AW_block ?_)
 | ((first | (with_reducible refine AW_ret ?_) | (with_reducible refine AW_skip ?_) | (with_reducible refine AW_exit ?_)); try simp only [thenA, blockA, if_true, if_false, reduceIte, Nat.reduceEqDiff, reduceCtorEq])
 | ((with_reducible show AW _ _ (.cond _ _ _) _ _ _); refine AW_cond rfl (fun hg => ?_) (fun hg => ?_) <;> first | (exfalso; simp only [reduceCtorEq] at hg; done) | ((try simp only [Bool.not_eq_true', Bool.not_eq_false', decide_eq_true_eq, decide_eq_false_iff_not] at hg); try (exfalso; omega)))
 | ((with_reducible show _ ∧ _); refine And.intro (fun hg => ?_) (fun hg => ?_) <;> (try simp only [Bool.not_eq_true', Bool.not_eq_false'] at hg) <;> simp only [hg] <;> (try simp only [decide_eq_true_eq, decide_eq_false_iff_not] at hg) <;> (try (exfalso; omega)))
 | ((first | (with_reducible apply FunH_intro) | (with_reducible apply AQ_intro)); (first | exact c7 | exact c8 _))
 | (clear hK K)
        | fail)
      have hS2 := (hS.app [(⟨0, false, 32, 1, S.map Fw⟩ : AO)]).putNew hg0 rst
      simp only [List.append_assoc, List.cons_append, List.nil_append, List.length_append, List.length_cons, List.length_nil, Nat.zero_add] at hS2
      obtain ⟨Z2, hZ2⟩ : ∃ Z2, List.set (Z1 ++ [(⟨0, false, 32, 1, S.map Fw⟩ : AO), ⟨0, false, 32, 1, rst.map Fw⟩]) A ⟨v1, false, 25, 1, (P1.map cR).set g (.sl (Z1.length + 1) 0 0 rst.length none)⟩ = Z2 := ⟨_, rfl⟩
      rw [hZ2] at hS2 ⊢
      have hb2 : 0 ≤ s.tmod 2 ∧ s.tmod 2 ≤ 1 := by
        have h1 := Int.tmod_nonneg (a := s) 2 hs.1
        have h2 := Int.tmod_lt_of_pos s (b := 2) (by omega)
        omega
      obtain ⟨b, hb⟩ : ∃ b : Nat, s.tmod 2 = (b : Nat) := ⟨(s.tmod 2).toNat, by omega⟩
      have hb1 : b ≤ 1 := by omega
      have hsA : A ≠ Z1.length := by have := hS.ls.ltA; omega
      have hso : Z2[Z1.length]? = some ⟨0, false, 32, 1, S.map Fw⟩ := by rw [← hZ2, List.getElem?_set_ne hsA, hp_get0]; rfl
      have hsk : ∀ k, k < (P1.set g (Z1.length + 1, 0, rst)).length → (ix (P1.set g (Z1.length + 1, 0, rst)) k).1 ≠ Z1.length := fun k hk => by
        rw [List.length_set] at hk
        rw [ix_setA hk]
        split
        · simp only; omega
        · have := hS.ls.ltk hk; omega
      have hW2 : wR (P1.set g (Z1.length + 1, 0, rst)) = (grw g (wR P)).set g rst := by
        show List.map _ (List.set _ _ _) = _
        rw [List.map_set]; show (wR P1).set g rst = _; rw [hW]
      have hP2l : (P1.set g (Z1.length + 1, 0, rst)).length = P1.length := List.length_set
      have hWl : (grw g (wR P)).length = P1.length := by rw [← hW, wR_len]
      obtain ⟨P2, hP2⟩ : ∃ P2, P1.set g (Z1.length + 1, 0, rst) = P2 := ⟨_, rfl⟩
      obtain ⟨sid, hsid⟩ : ∃ sid, Z1.length = sid := ⟨_, rfl⟩
      rw [hP2] at hS2 hsk hW2 hP2l
      rw [hsid] at hsA hso hsk ⊢
      clear hZ2 hP2 hsid c7 c8 r7 r8 sl7 sl8 lvI lvJ oI hcell hi1 hwk
      obtain ⟨u, hu⟩ : ∃ u, ix (grw g (wR P)) (g + 1) = u := ⟨_, rfl⟩
      have hSl : S.length = 2 * q := by rw [← hSd, srt_len, hfl]
      clear hS
      have hS := hS2
      repeat' (first
 | ((with_reducible refine hK _ _ ?_); clear hK K)
 | ((first | (with_reducible show AOp _ _ _ _ _ _ _)); simp (disch := first | ((with_reducible show liveO _ _ _ = true); first | assumption | (exact hS.lvB) | (exact hS.lvA) | (exact hS.lvBA _) | (exact hS.lvAA _) | (exact hS.bSl _ _) | (exact lvI) | (exact lvJ _) | (exact bSl _ _) | (exact aSl _ _) | (exact hS.lvR) | (exact liveO_setS (by assumption)) | (exact PtL.live (by assumption)) | (exact PtL.liveA (by assumption) _) | (simp only [go_sem]; done)) | omega | assumption | rfl | (simp only [go_sem]; first | done | omega)) only [go_sem, reduceIte, reduceCtorEq, Nat.reduceAdd, Nat.reduceMul, Nat.reduceSub, Nat.reduceLeDiff, Nat.lt_irrefl, Nat.reduceLT, Nat.reduceEqDiff, Nat.reduceBEq, Int.reduceLE, Int.reduceLT, Int.reduceToNat, w64, eq_self, hS.gB, hb])
 | (with_reducible refine AW_seq (fun K hK => ?_))
 | (with_reducible refine AW_region tyOk ?_)
 | (with_reducible refine AOps_cons (fun K hK => ?_))
 | ((with_reducible refine AOps_nil ?_); try simp only [thenA, blockA, if_true, if_false, reduceIte, Nat.reduceEqDiff, reduceCtorEq])
 | (with_reducible refine AW_block ?_)
 | ((first | (with_reducible refine AW_ret ?_) | (with_reducible refine AW_skip ?_) | (with_reducible refine AW_exit ?_)); try simp only [thenA, blockA, if_true, if_false, reduceIte, Nat.reduceEqDiff, reduceCtorEq])
 | ((with_reducible show AW _ _ (.cond _ _ _) _ _ _); refine AW_cond rfl (fun hg => ?_) (fun hg => ?_) <;> first | (exfalso; simp only [reduceCtorEq] at hg; done) | ((try simp only [Bool.not_eq_true', Bool.not_eq_false', decide_eq_true_eq, decide_eq_false_iff_not] at hg); try (exfalso; omega)))
 | ((with_reducible show _ ∧ _); refine And.intro (fun hg => ?_) (fun hg => ?_) <;> (try simp only [Bool.not_eq_true', Bool.not_eq_false'] at hg) <;> simp only [hg] <;> (try simp only [decide_eq_true_eq, decide_eq_false_iff_not] at hg) <;> (try (exfalso; omega)))
 | (clear hK K)
        | fail)
      refine AW_loopV [6, 59, 60, 61, 62, 63, 64, 65, 66, 67, 68, 69, 70, 71, 72, 73, 74, 75, 76, 77, 78, 79, 80, 81] (fun p : Nat × Hp × List (Nat × Nat × List Nat) => [(6, .int .i64 ((b + 2 * p.1 : Nat) : Int))]) (fun p => p.2.1) (fun p => p.1 ≤ q ∧ SS Hb p.2.1 X.length (2 * q : Nat) s A v1 p.2.2 ∧ wR p.2.2 = ((grw g (wR P)).set g rst).set (g + 1) (u ++ pik S b p.1) ∧ p.2.1[sid]? = some ⟨0, false, 32, 1, S.map Fw⟩ ∧ ∀ k, k < p.2.2.length → (ix p.2.2 k).1 ≠ sid) (fun p => q - p.1) (0, Z2, P2) ⟨Nat.zero_le _, hS2, ?_, hso, hsk⟩ ?_ rfl ?_
      · simp only
        rw [hW2, show u ++ pik S b 0 = u from List.append_nil _]
        exact (set_ixE (by rw [List.length_set, hWl]; exact hg1) (by rw [ix_setA (by rw [hWl]; exact hg1), if_neg (by omega)]; exact hu)).symm
      · simp only [junkAll, setAll, List.foldl_cons, List.foldl_nil, List.set_cons_succ, List.set_cons_zero, JL, true_or, or_true, and_true, true_and, reduceCtorEq, false_or, or_false, LV.int.injEq, LV.bool.injEq, LV.flt.injEq, LV.sl.injEq, LV.ptr.injEq, eq_self, Int.natCast_add, Int.natCast_one, Int.natCast_zero, Int.ofNat_zero]; simp
      clear hS hS2 hW2 hP2l hso hsk
      intro ⟨t, H, P3⟩ ⟨ht, hS, hW3, hso, hsk⟩ K hK
      simp only at ht hS hW3 hso hsk
      have hP3l : P3.length = P1.length := by rw [← wR_len P3, hW3, List.length_set, List.length_set, hWl]
      simp only [junkAll, setAll, List.foldl_cons, List.foldl_nil, List.set_cons_succ, List.set_cons_zero]
      by_cases htq : t < q
      · obtain ⟨i1, v2, w1, hi3⟩ : ∃ i1 v2 w1, ix P3 (g + 1) = (i1, v2, w1) := ⟨_, _, _, rfl⟩
        have hg3 : g + 1 < P3.length := by omega
        have hw1 : w1 = u ++ pik S b t := by
          have := wR_ix hg3
          rw [hW3, ix_setA (by rw [List.length_set, hWl]; exact hg1), if_pos rfl, hi3] at this
          exact this.symm
        have hcell : (P3.map cR)[g + 1]? = some (.sl i1 v2 0 w1.length none) := by rw [List.getElem?_map, ix_get? _ _ hg3, hi3]; rfl
        have hui : u.length ≤ 1048576 := by
          have h1 := totW_at (ls := grw g (wR P)) (k := g + 1) (by rw [hWl]; exact hg1)
          rw [hu, grw_tot] at h1; omega
        have hw1n : w1.length ≤ 2000000 := by rw [hw1, List.length_append, pik_len]; omega
        have o1 := hS.lvk hg3 hi3
        have o1A : ∀ L, (H ++ L)[i1]? = some ⟨v2, false, 32, 1, w1.map Fw⟩ := at_app o1
        have n1A : i1 ≠ A := by have := (hS.ls.row _ hg3).2.2; rw [hi3] at this; exact this
        have n1B : i1 ≠ X.length := by have := (hS.nk _ hg3).1; rw [hi3] at this; exact this
        have n1S : i1 ≠ sid := by have := hsk _ hg3; rw [hi3] at this; exact this
        have lvI : liveO H sid 0 = true := liveO_at hso
        have lvJ : ∀ L, liveO (H ++ L) sid 0 = true := fun L => liveO_at (at_app hso L)
        have gS : ∀ j, hget H sid 0 j = (S.map Fw)[j]? := fun j => hget_at hso
        have gSA : ∀ L j, hget (H ++ L) sid 0 j = (S.map Fw)[j]? := fun L j => hget_at (at_app hso L)
        have gSj : (S.map Fw)[b + 2 * t]? = some (Fw (ix S (b + 2 * t))) := by rw [List.getElem?_map, ix_get? _ _ (by omega)]; rfl
        have bS : ∀ (o : AO) (L : Hp), ((H ++ L).set i1 o)[X.length]? = some (bxL (2 * q : Nat) s A v1 P3.length) := fun o L => by rw [List.getElem?_set_ne n1B]; exact at_app hS.box L
        have aS : ∀ (o : AO) (L : Hp), ((H ++ L).set i1 o)[A]? = some ⟨v1, false, 25, 1, P3.map cR⟩ := fun o L => by rw [List.getElem?_set_ne n1A]; exact at_app hS.ls.out L
        have bSl : ∀ (o : AO) (L : Hp), liveO ((H ++ L).set i1 o) X.length 0 = true := fun o L => liveO_at (bS o L)
        have aSl : ∀ (o : AO) (L : Hp), liveO ((H ++ L).set i1 o) A v1 = true := fun o L => liveO_at (aS o L)
        have bSg : ∀ (o : AO) (L : Hp) (j : Nat), hget ((H ++ L).set i1 o) X.length 0 j = ([.int .i64 (2 * q : Nat), .int .i64 s, .sl A v1 0 P3.length none] : List LV)[j]? := fun o L j => hget_at (bS o L)
        have aSp : ∀ (o : AO) (L : Hp) (x : LV), hput ((H ++ L).set i1 o) A v1 (g + 1) [x] = some (((H ++ L).set i1 o).set A ⟨v1, false, 25, 1, (P3.map cR).set (g + 1) x⟩) := fun o L x => hputA_at (aS o L) (by simp; omega)
        have hwc : (w1.map Fw).length = w1.length := List.length_map ..
        have hwa : (w1.map Fw).all LV.isCell = true := by rw [List.all_eq_true]; intro x hx; obtain ⟨y, _, rfl⟩ := List.mem_map.1 hx; rfl
        have hgn1 : (((g : Nat) : Int) + 1).toNat = g + 1 := by omega
        have hbt : ((b + 2 * t : Nat) : Int).toNat = b + 2 * t := Int.toNat_natCast _
        have hbt2 : ((b : Int) + 2 * (t : Int)).toNat = b + 2 * t := by omega
        repeat' (first
 | ((with_reducible refine hK _ _ ?_); clear hK K)
 | ((with_reducible refine hK _ ?_); clear hK K; try simp only [])
 | ((with_reducible refine hK _ _ ?_ ?_); (first | exact Or.inl rfl | (with_reducible exact Or.inr id) | exact Or.inr (fun _ => by (first | exact ⟨_, by rw [hp_setj, List.append_assoc]; rfl⟩ | exact ⟨_, by rw [List.append_assoc]; rfl⟩ | exact ⟨_, rfl⟩ | exact ⟨_, by rw [List.append_assoc]; rfl⟩ | exact ⟨_, by simp only [List.append_assoc, List.cons_append, List.nil_append]; rfl⟩ | exact ⟨_, by rw [hp_setj, List.append_assoc]; rfl⟩ | exact ⟨_, hp_setj _ _ _ _⟩ | exact ⟨[], (List.append_nil _).symm⟩))); clear hK K; (try simp only [hp_setj, hp_set0, List.set_cons_succ, List.set_cons_zero, Nat.zero_add, Nat.reduceAdd, List.append_assoc, List.cons_append, List.nil_append, List.length_append, List.length_cons, List.length_nil, hS.gB, hS.gA, hS.gBA, hS.gAA, bSg, aSp, hcell, hgn1, hbt, hbt2, gS, gSA, gSj, o1A, hwc, hwa, Fw_cells, Fw_cell, Fw]))
 | ((first | (with_reducible show AOp _ _ _ _ _ _ _) | (with_reducible show AQOp _ _ _ _ _ _ _)); simp (disch := first | ((with_reducible show liveO _ _ _ = true); first | assumption | (exact hS.lvB) | (exact hS.lvA) | (exact hS.lvBA _) | (exact hS.lvAA _) | (exact hS.bSl _ _) | (exact lvI) | (exact lvJ _) | (exact bSl _ _) | (exact aSl _ _) | (exact hS.lvR) | (exact liveO_setS (by assumption)) | (exact PtL.live (by assumption)) | (exact PtL.liveA (by assumption) _) | (simp only [go_sem]; done)) | omega | assumption | rfl | (simp only [go_sem]; first | done | omega)) only [go_sem, reduceIte, reduceCtorEq, Nat.reduceAdd, Nat.reduceMul, Nat.reduceSub, Nat.reduceLeDiff, Nat.lt_irrefl, Nat.reduceLT, Nat.reduceEqDiff, Nat.reduceBEq, Int.reduceLE, Int.reduceLT, Int.reduceToNat, w64, eq_self, hS.gB, hS.gA, hS.gBA, hS.gAA, bSg, aSp, hcell, hgn1, hbt, hbt2, gS, gSA, gSj, o1A, hwc, hwa, Fw_cells, Fw_cell, Fw])
 | (with_reducible refine AW_seq (fun K hK => ?_))
 | (with_reducible refine AW_region tyOk ?_)
 | ((with_reducible apply AW_treeV (id := 12) tyOk 18 [(14, H.length)] [(32, 1)] [15, 16, 17]); (kernel_rfl); (exact rfl); simp only [List.map_cons, List.map_nil, List.append_assoc, List.cons_append, List.nil_append])
 | ((with_reducible refine AAnyR_leaf (by decide +kernel) ?_); (with_reducible exact Wk.refl))
 | ((with_reducible show AAnyR _ _ _ _ _ _ _ _ _ _ _ _); (first | (with_reducible refine AAnyR_canon (listed := Array.replicate 18 false) (mB 18 0) (by decide +kernel) ?_) | ((with_reducible refine AAnyR_quiet (listed := (mB 18 0)) 4 rfl rfl ?_ (by decide +kernel) (by decide +kernel) (by decide +kernel) (by decide +kernel) (by (first | exact ⟨_, rfl⟩ | exact ⟨_, by rw [List.append_assoc]; rfl⟩ | exact ⟨_, by simp only [List.append_assoc, List.cons_append, List.nil_append]; rfl⟩ | exact ⟨_, by rw [hp_setj, List.append_assoc]; rfl⟩ | exact ⟨_, hp_setj _ _ _ _⟩ | exact ⟨[], (List.append_nil _).symm⟩)) (fun K hK => ?_)); (exact rfl)) | (with_reducible refine AAnyR_canon (listed := Array.setIfInBounds (mB 18 0) 4 true) (mB 18 16) (by decide +kernel) ?vs3_16) | ((with_reducible refine AAnyR_quiet (listed := (mB 18 16)) 5 rfl rfl ?_ (by decide +kernel) (by decide +kernel) (by decide +kernel) (by decide +kernel) (by (first | exact ⟨_, rfl⟩ | exact ⟨_, by rw [List.append_assoc]; rfl⟩ | exact ⟨_, by simp only [List.append_assoc, List.cons_append, List.nil_append]; rfl⟩ | exact ⟨_, by rw [hp_setj, List.append_assoc]; rfl⟩ | exact ⟨_, hp_setj _ _ _ _⟩ | exact ⟨[], (List.append_nil _).symm⟩)) (fun K hK => ?_)); (exact rfl)) | (with_reducible refine AAnyR_canon (listed := Array.setIfInBounds (mB 18 16) 5 true) (mB 18 48) (by decide +kernel) ?vs3_48) | ((with_reducible refine AAnyR_quiet (listed := (mB 18 48)) 6 rfl rfl ?_ (by decide +kernel) (by decide +kernel) (by decide +kernel) (by decide +kernel) (by (first | exact ⟨_, rfl⟩ | exact ⟨_, by rw [List.append_assoc]; rfl⟩ | exact ⟨_, by simp only [List.append_assoc, List.cons_append, List.nil_append]; rfl⟩ | exact ⟨_, by rw [hp_setj, List.append_assoc]; rfl⟩ | exact ⟨_, hp_setj _ _ _ _⟩ | exact ⟨[], (List.append_nil _).symm⟩)) (fun K hK => ?_)); (exact rfl)) | (with_reducible refine AAnyR_canon (listed := Array.setIfInBounds (mB 18 48) 6 true) (mB 18 112) (by decide +kernel) ?vs3_112) | ((with_reducible refine AAnyR_quiet (listed := (mB 18 112)) 7 rfl rfl ?_ (by decide +kernel) (by decide +kernel) (by decide +kernel) (by decide +kernel) (by (first | exact ⟨_, rfl⟩ | exact ⟨_, by rw [List.append_assoc]; rfl⟩ | exact ⟨_, by simp only [List.append_assoc, List.cons_append, List.nil_append]; rfl⟩ | exact ⟨_, by rw [hp_setj, List.append_assoc]; rfl⟩ | exact ⟨_, hp_setj _ _ _ _⟩ | exact ⟨[], (List.append_nil _).symm⟩)) (fun K hK => ?_)); (exact rfl)) | (with_reducible refine AAnyR_canon (listed := Array.setIfInBounds (mB 18 112) 7 true) (mB 18 240) (by decide +kernel) ?vs3_240) | ((with_reducible refine AAnyR_quiet (listed := (mB 18 240)) 8 rfl rfl ?_ (by decide +kernel) (by decide +kernel) (by decide +kernel) (by decide +kernel) (by (first | exact ⟨_, rfl⟩ | exact ⟨_, by rw [List.append_assoc]; rfl⟩ | exact ⟨_, by simp only [List.append_assoc, List.cons_append, List.nil_append]; rfl⟩ | exact ⟨_, by rw [hp_setj, List.append_assoc]; rfl⟩ | exact ⟨_, hp_setj _ _ _ _⟩ | exact ⟨[], (List.append_nil _).symm⟩)) (fun K hK => ?_)); (exact rfl)) | (with_reducible refine AAnyR_canon (listed := Array.setIfInBounds (mB 18 240) 8 true) (mB 18 496) (by decide +kernel) ?vs3_496) | ((with_reducible refine AAnyR_quiet (listed := (mB 18 496)) 9 rfl rfl ?_ (by decide +kernel) (by decide +kernel) (by decide +kernel) (by decide +kernel) (by (first | exact ⟨_, rfl⟩ | exact ⟨_, by rw [List.append_assoc]; rfl⟩ | exact ⟨_, by simp only [List.append_assoc, List.cons_append, List.nil_append]; rfl⟩ | exact ⟨_, by rw [hp_setj, List.append_assoc]; rfl⟩ | exact ⟨_, hp_setj _ _ _ _⟩ | exact ⟨[], (List.append_nil _).symm⟩)) (fun K hK => ?_)); (exact rfl)) | (with_reducible refine AAnyR_canon (listed := Array.setIfInBounds (mB 18 496) 9 true) (mB 18 1008) (by decide +kernel) ?vs3_1008) | ((with_reducible refine AAnyR_quiet (listed := (mB 18 1008)) 10 rfl rfl ?_ (by decide +kernel) (by decide +kernel) (by decide +kernel) (by decide +kernel) (by (first | exact ⟨_, rfl⟩ | exact ⟨_, by rw [List.append_assoc]; rfl⟩ | exact ⟨_, by simp only [List.append_assoc, List.cons_append, List.nil_append]; rfl⟩ | exact ⟨_, by rw [hp_setj, List.append_assoc]; rfl⟩ | exact ⟨_, hp_setj _ _ _ _⟩ | exact ⟨[], (List.append_nil _).symm⟩)) (fun K hK => ?_)); (exact rfl)) | (with_reducible refine AAnyR_canon (listed := Array.setIfInBounds (mB 18 1008) 10 true) (mB 18 2032) (by decide +kernel) ?vs3_2032) | ((with_reducible refine AAnyR_quiet (listed := (mB 18 2032)) 11 rfl rfl ?_ (by decide +kernel) (by decide +kernel) (by decide +kernel) (by decide +kernel) (by (first | exact ⟨_, rfl⟩ | exact ⟨_, by rw [List.append_assoc]; rfl⟩ | exact ⟨_, by simp only [List.append_assoc, List.cons_append, List.nil_append]; rfl⟩ | exact ⟨_, by rw [hp_setj, List.append_assoc]; rfl⟩ | exact ⟨_, hp_setj _ _ _ _⟩ | exact ⟨[], (List.append_nil _).symm⟩)) (fun K hK => ?_)); (exact rfl)) | (with_reducible refine AAnyR_canon (listed := Array.setIfInBounds (mB 18 2032) 11 true) (mB 18 4080) (by decide +kernel) ?vs3_4080) | ((with_reducible refine AAnyR_quiet (listed := (mB 18 4080)) 12 rfl rfl ?_ (by decide +kernel) (by decide +kernel) (by decide +kernel) (by decide +kernel) (by (first | exact ⟨_, rfl⟩ | exact ⟨_, by rw [List.append_assoc]; rfl⟩ | exact ⟨_, by simp only [List.append_assoc, List.cons_append, List.nil_append]; rfl⟩ | exact ⟨_, by rw [hp_setj, List.append_assoc]; rfl⟩ | exact ⟨_, hp_setj _ _ _ _⟩ | exact ⟨[], (List.append_nil _).symm⟩)) (fun K hK => ?_)); (exact rfl)) | (with_reducible refine AAnyR_canon (listed := Array.setIfInBounds (mB 18 4080) 12 true) (mB 18 8176) (by decide +kernel) ?vs3_8176) | ((with_reducible refine AAnyR_quiet (listed := (mB 18 8176)) 13 rfl rfl ?_ (by decide +kernel) (by decide +kernel) (by decide +kernel) (by decide +kernel) (by (first | exact ⟨_, rfl⟩ | exact ⟨_, by rw [List.append_assoc]; rfl⟩ | exact ⟨_, by simp only [List.append_assoc, List.cons_append, List.nil_append]; rfl⟩ | exact ⟨_, by rw [hp_setj, List.append_assoc]; rfl⟩ | exact ⟨_, hp_setj _ _ _ _⟩ | exact ⟨[], (List.append_nil _).symm⟩)) (fun K hK => ?_)); (exact rfl)) | (with_reducible refine AAnyR_canon (listed := Array.setIfInBounds (mB 18 8176) 13 true) (mB 18 16368) (by decide +kernel) ?vs3_16368) | ((with_reducible refine AAnyR_step (listed := (mB 18 16368)) 0 [2, 14] ?_ ?_); (decide +kernel)) | (with_reducible refine AAnyR_canon (listed := Array.setIfInBounds (mB 18 16368) 0 true) (mB 18 16369) (by decide +kernel) ?vs3_16369) | (with_reducible refine AAnyR_canon (listed := Array.setIfInBounds (mB 18 16368) 2 true) (mB 18 16372) (by decide +kernel) ?vs3_16372) | (with_reducible refine AAnyR_canon (listed := Array.setIfInBounds (mB 18 16368) 14 true) (mB 18 32752) (by decide +kernel) ?vs3_32752) | ((with_reducible refine AAnyR_step (listed := (mB 18 16369)) 1 [2, 14] ?_ ?_); (decide +kernel)) | (with_reducible refine AAnyR_canon (listed := Array.setIfInBounds (mB 18 16369) 1 true) (mB 18 16371) (by decide +kernel) ?vs3_16371) | (with_reducible refine AAnyR_canon (listed := Array.setIfInBounds (mB 18 16369) 2 true) (mB 18 16373) (by decide +kernel) ?vs3_16373) | (with_reducible refine AAnyR_canon (listed := Array.setIfInBounds (mB 18 16369) 14 true) (mB 18 32753) (by decide +kernel) ?vs3_32753) | ((with_reducible refine AAnyR_step (listed := (mB 18 16371)) 2 [14] ?_ ?_); (decide +kernel)) | (with_reducible refine AAnyR_canon (listed := Array.setIfInBounds (mB 18 16371) 2 true) (mB 18 16375) (by decide +kernel) ?vs3_16375) | (with_reducible refine AAnyR_canon (listed := Array.setIfInBounds (mB 18 16371) 14 true) (mB 18 32755) (by decide +kernel) ?vs3_32755) | ((with_reducible refine AAnyR_step (listed := (mB 18 16375)) 3 [14] ?_ ?_); (decide +kernel)) | (with_reducible refine AAnyR_canon (listed := Array.setIfInBounds (mB 18 16375) 3 true) (mB 18 16383) (by decide +kernel) ?vs3_16383) | (with_reducible refine AAnyR_canon (listed := Array.setIfInBounds (mB 18 16375) 14 true) (mB 18 32759) (by decide +kernel) ?vs3_32759) | ((with_reducible refine AAnyR_step (listed := (mB 18 16383)) 14 [] ?_ ?_); (decide +kernel)) | (with_reducible refine AAnyR_canon (listed := Array.setIfInBounds (mB 18 16383) 14 true) (mB 18 32767) (by decide +kernel) ?vs3_32767) | ((with_reducible refine AAnyR_step (listed := (mB 18 32767)) 15 [] ?_ ?_); (decide +kernel)) | (with_reducible refine AAnyR_canon (listed := Array.setIfInBounds (mB 18 32767) 15 true) (mB 18 65535) (by decide +kernel) ?vs3_65535) | ((with_reducible refine AAnyR_step (listed := (mB 18 65535)) 16 [] ?_ ?_); (decide +kernel)) | (with_reducible refine AAnyR_canon (listed := Array.setIfInBounds (mB 18 65535) 16 true) (mB 18 131071) (by decide +kernel) ?vs3_131071) | ((with_reducible refine AAnyR_step (listed := (mB 18 131071)) 17 [] ?_ ?_); (decide +kernel)) | (with_reducible refine AAnyR_canon (listed := Array.setIfInBounds (mB 18 131071) 17 true) (mB 18 262143) (by decide +kernel) ?vs3_262143) | ((with_reducible refine AAnyR_step (listed := (mB 18 32759)) 3 [15] ?_ ?_); (decide +kernel)) | (with_reducible refine AAnyR_canon (listed := Array.setIfInBounds (mB 18 32759) 3 true) (mB 18 32767) (by decide +kernel) ?vs3_32767) | (with_reducible refine AAnyR_canon (listed := Array.setIfInBounds (mB 18 32759) 15 true) (mB 18 65527) (by decide +kernel) ?vs3_65527) | ((with_reducible refine AAnyR_step (listed := (mB 18 65527)) 3 [] ?_ ?_); (decide +kernel)) | (with_reducible refine AAnyR_canon (listed := Array.setIfInBounds (mB 18 65527) 3 true) (mB 18 65535) (by decide +kernel) ?vs3_65535) | ((with_reducible refine AAnyR_step (listed := (mB 18 32755)) 2 [15] ?_ ?_); (decide +kernel)) | (with_reducible refine AAnyR_canon (listed := Array.setIfInBounds (mB 18 32755) 2 true) (mB 18 32759) (by decide +kernel) ?vs3_32759) | (with_reducible refine AAnyR_canon (listed := Array.setIfInBounds (mB 18 32755) 15 true) (mB 18 65523) (by decide +kernel) ?vs3_65523) | ((with_reducible refine AAnyR_step (listed := (mB 18 65523)) 2 [] ?_ ?_); (decide +kernel)) | (with_reducible refine AAnyR_canon (listed := Array.setIfInBounds (mB 18 65523) 2 true) (mB 18 65527) (by decide +kernel) ?vs3_65527) | ((with_reducible refine AAnyR_step (listed := (mB 18 16373)) 1 [3, 14] ?_ ?_); (decide +kernel)) | (with_reducible refine AAnyR_canon (listed := Array.setIfInBounds (mB 18 16373) 1 true) (mB 18 16375) (by decide +kernel) ?vs3_16375) | (with_reducible refine AAnyR_canon (listed := Array.setIfInBounds (mB 18 16373) 3 true) (mB 18 16381) (by decide +kernel) ?vs3_16381) | (with_reducible refine AAnyR_canon (listed := Array.setIfInBounds (mB 18 16373) 14 true) (mB 18 32757) (by decide +kernel) ?vs3_32757) | ((with_reducible refine AAnyR_step (listed := (mB 18 16381)) 1 [14] ?_ ?_); (decide +kernel)) | (with_reducible refine AAnyR_canon (listed := Array.setIfInBounds (mB 18 16381) 1 true) (mB 18 16383) (by decide +kernel) ?vs3_16383) | (with_reducible refine AAnyR_canon (listed := Array.setIfInBounds (mB 18 16381) 14 true) (mB 18 32765) (by decide +kernel) ?vs3_32765) | ((with_reducible refine AAnyR_step (listed := (mB 18 32765)) 1 [15] ?_ ?_); (decide +kernel)) | (with_reducible refine AAnyR_canon (listed := Array.setIfInBounds (mB 18 32765) 1 true) (mB 18 32767) (by decide +kernel) ?vs3_32767) | (with_reducible refine AAnyR_canon (listed := Array.setIfInBounds (mB 18 32765) 15 true) (mB 18 65533) (by decide +kernel) ?vs3_65533) | ((with_reducible refine AAnyR_step (listed := (mB 18 65533)) 1 [] ?_ ?_); (decide +kernel)) | (with_reducible refine AAnyR_canon (listed := Array.setIfInBounds (mB 18 65533) 1 true) (mB 18 65535) (by decide +kernel) ?vs3_65535) | ((with_reducible refine AAnyR_step (listed := (mB 18 32757)) 1 [3, 15] ?_ ?_); (decide +kernel)) | (with_reducible refine AAnyR_canon (listed := Array.setIfInBounds (mB 18 32757) 1 true) (mB 18 32759) (by decide +kernel) ?vs3_32759) | (with_reducible refine AAnyR_canon (listed := Array.setIfInBounds (mB 18 32757) 3 true) (mB 18 32765) (by decide +kernel) ?vs3_32765) | (with_reducible refine AAnyR_canon (listed := Array.setIfInBounds (mB 18 32757) 15 true) (mB 18 65525) (by decide +kernel) ?vs3_65525) | ((with_reducible refine AAnyR_step (listed := (mB 18 65525)) 1 [3] ?_ ?_); (decide +kernel)) | (with_reducible refine AAnyR_canon (listed := Array.setIfInBounds (mB 18 65525) 1 true) (mB 18 65527) (by decide +kernel) ?vs3_65527) | (with_reducible refine AAnyR_canon (listed := Array.setIfInBounds (mB 18 65525) 3 true) (mB 18 65533) (by decide +kernel) ?vs3_65533) | ((with_reducible refine AAnyR_step (listed := (mB 18 32753)) 1 [2, 15] ?_ ?_); (decide +kernel)) | (with_reducible refine AAnyR_canon (listed := Array.setIfInBounds (mB 18 32753) 1 true) (mB 18 32755) (by decide +kernel) ?vs3_32755) | (with_reducible refine AAnyR_canon (listed := Array.setIfInBounds (mB 18 32753) 2 true) (mB 18 32757) (by decide +kernel) ?vs3_32757) | (with_reducible refine AAnyR_canon (listed := Array.setIfInBounds (mB 18 32753) 15 true) (mB 18 65521) (by decide +kernel) ?vs3_65521) | ((with_reducible refine AAnyR_step (listed := (mB 18 65521)) 1 [2] ?_ ?_); (decide +kernel)) | (with_reducible refine AAnyR_canon (listed := Array.setIfInBounds (mB 18 65521) 1 true) (mB 18 65523) (by decide +kernel) ?vs3_65523) | (with_reducible refine AAnyR_canon (listed := Array.setIfInBounds (mB 18 65521) 2 true) (mB 18 65525) (by decide +kernel) ?vs3_65525) | ((with_reducible refine AAnyR_step (listed := (mB 18 16372)) 0 [3, 14] ?_ ?_); (decide +kernel)) | (with_reducible refine AAnyR_canon (listed := Array.setIfInBounds (mB 18 16372) 0 true) (mB 18 16373) (by decide +kernel) ?vs3_16373) | (with_reducible refine AAnyR_canon (listed := Array.setIfInBounds (mB 18 16372) 3 true) (mB 18 16380) (by decide +kernel) ?vs3_16380) | (with_reducible refine AAnyR_canon (listed := Array.setIfInBounds (mB 18 16372) 14 true) (mB 18 32756) (by decide +kernel) ?vs3_32756) | ((with_reducible refine AAnyR_step (listed := (mB 18 16380)) 0 [14] ?_ ?_); (decide +kernel)) | (with_reducible refine AAnyR_canon (listed := Array.setIfInBounds (mB 18 16380) 0 true) (mB 18 16381) (by decide +kernel) ?vs3_16381) | (with_reducible refine AAnyR_canon (listed := Array.setIfInBounds (mB 18 16380) 14 true) (mB 18 32764) (by decide +kernel) ?vs3_32764) | ((with_reducible refine AAnyR_step (listed := (mB 18 32764)) 0 [15] ?_ ?_); (decide +kernel)) | (with_reducible refine AAnyR_canon (listed := Array.setIfInBounds (mB 18 32764) 0 true) (mB 18 32765) (by decide +kernel) ?vs3_32765) | (with_reducible refine AAnyR_canon (listed := Array.setIfInBounds (mB 18 32764) 15 true) (mB 18 65532) (by decide +kernel) ?vs3_65532) | ((with_reducible refine AAnyR_step (listed := (mB 18 65532)) 0 [] ?_ ?_); (decide +kernel)) | (with_reducible refine AAnyR_canon (listed := Array.setIfInBounds (mB 18 65532) 0 true) (mB 18 65533) (by decide +kernel) ?vs3_65533) | ((with_reducible refine AAnyR_step (listed := (mB 18 32756)) 0 [3, 15] ?_ ?_); (decide +kernel)) | (with_reducible refine AAnyR_canon (listed := Array.setIfInBounds (mB 18 32756) 0 true) (mB 18 32757) (by decide +kernel) ?vs3_32757) | (with_reducible refine AAnyR_canon (listed := Array.setIfInBounds (mB 18 32756) 3 true) (mB 18 32764) (by decide +kernel) ?vs3_32764) | (with_reducible refine AAnyR_canon (listed := Array.setIfInBounds (mB 18 32756) 15 true) (mB 18 65524) (by decide +kernel) ?vs3_65524) | ((with_reducible refine AAnyR_step (listed := (mB 18 65524)) 0 [3] ?_ ?_); (decide +kernel)) | (with_reducible refine AAnyR_canon (listed := Array.setIfInBounds (mB 18 65524) 0 true) (mB 18 65525) (by decide +kernel) ?vs3_65525) | (with_reducible refine AAnyR_canon (listed := Array.setIfInBounds (mB 18 65524) 3 true) (mB 18 65532) (by decide +kernel) ?vs3_65532) | ((with_reducible refine AAnyR_step (listed := (mB 18 32752)) 0 [2, 15] ?_ ?_); (decide +kernel)) | (with_reducible refine AAnyR_canon (listed := Array.setIfInBounds (mB 18 32752) 0 true) (mB 18 32753) (by decide +kernel) ?vs3_32753) | (with_reducible refine AAnyR_canon (listed := Array.setIfInBounds (mB 18 32752) 2 true) (mB 18 32756) (by decide +kernel) ?vs3_32756) | (with_reducible refine AAnyR_canon (listed := Array.setIfInBounds (mB 18 32752) 15 true) (mB 18 65520) (by decide +kernel) ?vs3_65520) | ((with_reducible refine AAnyR_step (listed := (mB 18 65520)) 0 [2] ?_ ?_); (decide +kernel)) | (with_reducible refine AAnyR_canon (listed := Array.setIfInBounds (mB 18 65520) 0 true) (mB 18 65521) (by decide +kernel) ?vs3_65521) | (with_reducible refine AAnyR_canon (listed := Array.setIfInBounds (mB 18 65520) 2 true) (mB 18 65524) (by decide +kernel) ?vs3_65524)))
 | ((with_reducible refine AAllR_res (i := 14) (H.length) 79 ?_ rfl ?_ (fun K hK => ?_) ?_); (exact rfl); (exact rfl))
 | ((with_reducible show RK _ _ _ _ _ _); (try simp only [List.append_assoc, List.cons_append, List.nil_append, hp_setj, List.set_cons_succ, List.set_cons_zero]); refine RK_intro _ (by first | exact List.append_assoc _ _ _ | rfl) (by first | exact (hp_getj _ _ _).trans rfl | exact (hp_get0 _ _).trans rfl) rfl rfl (by intro c hc; simp only [List.mem_cons, List.not_mem_nil, or_false] at hc; (try (rcases hc with rfl | rfl | rfl | rfl | rfl)) <;> first | exact trivial | (subst hc; exact trivial) | (cases hc; done)) (by first | exact ⟨_, _, rfl, by simp, Or.inl rfl⟩ | exact ⟨_, _, rfl, by simp, Or.inr ⟨_, rfl⟩⟩) ?_; simp only [hp_setj, hp_set0, List.set_cons_succ, List.set_cons_zero, List.getD_cons_succ, List.getD_cons_zero, reloc]; refine ⟨Or.inr (fun _ => by (first | exact ⟨_, rfl⟩ | exact ⟨_, by rw [List.append_assoc]; rfl⟩ | exact ⟨_, by simp only [List.append_assoc, List.cons_append, List.nil_append]; rfl⟩ | exact ⟨_, by rw [hp_setj, List.append_assoc]; rfl⟩ | exact ⟨_, hp_setj _ _ _ _⟩ | exact ⟨[], (List.append_nil _).symm⟩)), ?_⟩)
 | ((with_reducible refine AAllR_cons ?_ rfl (fun K hK => ?_) ?_); (exact rfl))
 | (with_reducible exact AAllR_nil)
 | ((with_reducible show thenA _ _ _ _ _); simp only [thenA, blockA, if_true, if_false, reduceIte])
 | ((with_reducible show blockA _ _ _ _ _); simp only [thenA, blockA, if_true, if_false, reduceIte, Nat.reduceEqDiff, reduceCtorEq])
 | (with_reducible refine AOps_cons (fun K hK => ?_))
 | (with_reducible refine AQOps_cons (fun K hK => ?_))
 | ((with_reducible refine AQOps_nil ?_); try simp only [thenA, blockA, if_true, if_false, reduceIte, Nat.reduceEqDiff, reduceCtorEq])
 | ((with_reducible refine AOps_nil ?_); try simp only [thenA, blockA, if_true, if_false, reduceIte, Nat.reduceEqDiff, reduceCtorEq])
 | (with_reducible refine AW_block ?_)
 | ((first | (with_reducible refine AW_ret ?_) | (with_reducible refine AW_skip ?_) | (with_reducible refine AW_exit ?_)); try simp only [thenA, blockA, if_true, if_false, reduceIte, Nat.reduceEqDiff, reduceCtorEq])
 | ((with_reducible show AW _ _ (.cond _ _ _) _ _ _); refine AW_cond rfl (fun hg => ?_) (fun hg => ?_) <;> first | (exfalso; simp only [reduceCtorEq] at hg; done) | ((try simp only [Bool.not_eq_true', Bool.not_eq_false', decide_eq_true_eq, decide_eq_false_iff_not] at hg); try (exfalso; omega)))
 | ((with_reducible show _ ∧ _); refine And.intro (fun hg => ?_) (fun hg => ?_) <;> (try simp only [Bool.not_eq_true', Bool.not_eq_false'] at hg) <;> simp only [hg] <;> (try simp only [decide_eq_true_eq, decide_eq_false_iff_not] at hg) <;> (try (exfalso; omega)))
 | (clear hK K)
          | fail)
        have hS4 := (hS.app [(⟨1, false, 32, 1, [.flt .f32 (some (ix S (b + 2 * t)))]⟩ : AO)]).putOld hg3 (v2 + 1) (w1 ++ [ix S (b + 2 * t)])
        rw [hi3] at hS4
        simp only [List.map_append, List.map_cons, List.map_nil, List.length_append, List.length_cons, List.length_nil, Nat.zero_add, Fw] at hS4
        refine hK _ _ (t + 1, _, _) ⟨by simp only; omega, hS4, ?_, ?_, ?_⟩ (by simp only; omega) ?_ rfl
        · show List.map _ (List.set _ _ _) = _
          rw [List.map_set]
          show (wR P3).set (g + 1) (w1 ++ [ix S (b + 2 * t)]) = _
          rw [hW3, List.set_set, hw1, List.append_assoc]; rfl
        · simp only
          rw [List.getElem?_set_ne hsA, List.getElem?_set_ne n1S]; exact at_app hso _
        · intro k hk
          simp only at hk ⊢
          rw [List.length_set] at hk
          rw [ix_setA hk]
          split
          · exact n1S
          · exact hsk k hk
        · simp only [junkAll, setAll, List.foldl_cons, List.foldl_nil, List.set_cons_succ, List.set_cons_zero, JL, true_or, or_true, and_true, true_and, reduceCtorEq, false_or, or_false, LV.int.injEq, LV.bool.injEq, LV.flt.injEq, LV.sl.injEq, LV.ptr.injEq, eq_self, Int.natCast_add, Int.natCast_one, Int.natCast_zero, Int.ofNat_zero]; omega
      · have htq : t = q := by omega
        have hs3 : 0 ≤ s := hs.1
        have hs4 : s ≤ 4294967295 := hs.2
        repeat' (first
 | ((with_reducible refine hK _ _ ?_); clear hK K)
 | ((first | (with_reducible show AOp _ _ _ _ _ _ _)); simp (disch := first | ((with_reducible show liveO _ _ _ = true); first | assumption | (exact hS.lvB) | (exact hS.lvA) | (exact hS.lvBA _) | (exact hS.lvAA _) | (exact hS.bSl _ _) | (exact lvI) | (exact lvJ _) | (exact bSl _ _) | (exact aSl _ _) | (exact hS.lvR) | (exact liveO_setS (by assumption)) | (exact PtL.live (by assumption)) | (exact PtL.liveA (by assumption) _) | (simp only [go_sem]; done)) | omega | assumption | rfl | (simp only [go_sem]; first | done | omega)) only [go_sem, reduceIte, reduceCtorEq, Nat.reduceAdd, Nat.reduceMul, Nat.reduceSub, Nat.reduceLeDiff, Nat.lt_irrefl, Nat.reduceLT, Nat.reduceEqDiff, Nat.reduceBEq, Int.reduceLE, Int.reduceLT, Int.reduceToNat, w64, eq_self, hS.gB, hS.pB1])
 | (with_reducible refine AW_seq (fun K hK => ?_))
 | (with_reducible refine AW_region tyOk ?_)
 | (with_reducible refine AOps_cons (fun K hK => ?_))
 | ((with_reducible refine AOps_nil ?_); try simp only [thenA, blockA, if_true, if_false, reduceIte, Nat.reduceEqDiff, reduceCtorEq])
 | (with_reducible refine AW_block ?_)
 | ((first | (with_reducible refine AW_ret ?_) | (with_reducible refine AW_skip ?_) | (with_reducible refine AW_exit ?_)); try simp only [thenA, blockA, if_true, if_false, reduceIte, Nat.reduceEqDiff, reduceCtorEq])
 | ((with_reducible show AW _ _ (.cond _ _ _) _ _ _); refine AW_cond rfl (fun hg => ?_) (fun hg => ?_) <;> first | (exfalso; simp only [reduceCtorEq] at hg; done) | ((try simp only [Bool.not_eq_true', Bool.not_eq_false', decide_eq_true_eq, decide_eq_false_iff_not] at hg); try (exfalso; omega)))
 | ((with_reducible show _ ∧ _); refine And.intro (fun hg => ?_) (fun hg => ?_) <;> (try simp only [Bool.not_eq_true', Bool.not_eq_false'] at hg) <;> simp only [hg] <;> (try simp only [decide_eq_true_eq, decide_eq_false_iff_not] at hg) <;> (try (exfalso; omega)))
 | (clear hK K)
          | fail)
        have hst : wR P3 = stp q g (wR P) s := by
          rw [hW3, htq]; unfold stp
          rw [hw, hrst, hfst, hSd, hu, hb, Int.toNat_natCast]
        have hgw : g < (wR P).length := by rw [wR_len]; exact hgP
        have hlw := stp_len q g (wR P) s
        have htw := stp_tot (q := q) (h := g) (ls := wR P) s hgw (by rw [hw]; exact hfull)
        rw [← hst, wR_len, wR_len] at hlw
        rw [← hst] at htw
        have hq1 := hq.1
        refine hK _ _ (m, _, sdN s, v1, P3) ⟨hS.setB (sdN s), ?_, ?_, sdN_in hs, ?_, ?_, ?_⟩ (by simp only; omega) ?_ rfl
        · simp only
          rw [← hR, stl_succ, if_pos hgw, if_pos (by rw [hw]; exact hfull), hst]
        · simp only; omega
        · simp only; split at hlw <;> omega
        · simp only; split at hlw <;> omega
        · simp only; omega
        · simp only [junkAll, setAll, List.foldl_cons, List.foldl_nil, List.set_cons_succ, List.set_cons_zero, JL, true_or, or_true, and_true, true_and, reduceCtorEq, false_or, or_false, LV.int.injEq, LV.bool.injEq, LV.flt.injEq, LV.sl.injEq, LV.ptr.injEq, eq_self, Int.natCast_add, Int.natCast_one, Int.natCast_zero, Int.ofNat_zero]
    · repeat' (first
 | ((with_reducible refine hK _ _ ?_); clear hK K)
 | ((with_reducible refine hK _ ?_); clear hK K; try simp only [])
 | ((first | (with_reducible show AOp _ _ _ _ _ _ _) | (with_reducible show AQOp _ _ _ _ _ _ _)); simp (disch := first | ((with_reducible show liveO _ _ _ = true); first | assumption | (exact hS.lvB) | (exact hS.lvA) | (exact hS.lvBA _) | (exact hS.lvAA _) | (exact hS.bSl _ _) | (exact lvI) | (exact lvJ _) | (exact bSl _ _) | (exact aSl _ _) | (exact hS.lvR) | (exact liveO_setS (by assumption)) | (exact PtL.live (by assumption)) | (exact PtL.liveA (by assumption) _) | (simp only [go_sem]; done)) | omega | assumption | rfl | (simp only [go_sem]; first | done | omega)) only [go_sem, reduceIte, reduceCtorEq, Nat.reduceAdd, Nat.reduceMul, Nat.reduceSub, Nat.reduceLeDiff, Nat.lt_irrefl, Nat.reduceLT, Nat.reduceEqDiff, Nat.reduceBEq, Int.reduceLE, Int.reduceLT, Int.reduceToNat, w64, eq_self, hS.gB, hS.gA, hcell, hgn])
 | (with_reducible refine AW_seq (fun K hK => ?_))
 | (with_reducible refine AW_region tyOk ?_)
 | ((with_reducible refine AW_quiet (id := 4) tyOk ?_ ?_ ?_); (kernel_rfl); (kernel_rfl))
 | (with_reducible refine AOps_cons (fun K hK => ?_))
 | (with_reducible refine AQOps_cons (fun K hK => ?_))
 | ((with_reducible refine AQOps_nil ?_); try simp only [thenA, blockA, if_true, if_false, reduceIte, Nat.reduceEqDiff, reduceCtorEq])
 | ((with_reducible refine AOps_nil ?_); try simp only [thenA, blockA, if_true, if_false, reduceIte, Nat.reduceEqDiff, reduceCtorEq])
 | (with_reducible refine AW_block ?_)
 | ((first | (with_reducible refine AW_ret ?_) | (with_reducible refine AW_skip ?_) | (with_reducible refine AW_exit ?_)); try simp only [thenA, blockA, if_true, if_false, reduceIte, Nat.reduceEqDiff, reduceCtorEq])
 | ((with_reducible show AW _ _ (.cond _ _ _) _ _ _); refine AW_cond rfl (fun hg => ?_) (fun hg => ?_) <;> first | (exfalso; simp only [reduceCtorEq] at hg; done) | ((try simp only [Bool.not_eq_true', Bool.not_eq_false', decide_eq_true_eq, decide_eq_false_iff_not] at hg); try (exfalso; omega)))
 | ((with_reducible show _ ∧ _); refine And.intro (fun hg => ?_) (fun hg => ?_) <;> (try simp only [Bool.not_eq_true', Bool.not_eq_false'] at hg) <;> simp only [hg] <;> (try simp only [decide_eq_true_eq, decide_eq_false_iff_not] at hg) <;> (try (exfalso; omega)))
 | (clear hK K)
        | fail)
      refine hK _ _ (m, g + 1, Z, s, v, P) ⟨hS, ?_, hgP, hs, hT, by simp only; omega⟩ (by simp only; omega) ?_ rfl
      · simp only
        rw [← hR, stl_succ, if_pos (by rw [wR_len]; exact hgP), if_neg (by rw [hw]; exact hfull)]
      · simp only [junkAll, setAll, List.foldl_cons, List.foldl_nil, List.set_cons_succ, List.set_cons_zero, JL, true_or, or_true, and_true, true_and, reduceCtorEq, false_or, or_false, LV.int.injEq, LV.bool.injEq, LV.flt.injEq, LV.sl.injEq, LV.ptr.injEq, eq_self, Int.natCast_add, Int.natCast_one, Int.natCast_zero, Int.ofNat_zero]
  · have gB3 : hgets Z X.length 0 0 3 = some [.int .i64 (2 * q : Nat), .int .i64 s, .sl A v 0 P.length none] := by have := hS.box; simp [hgets, this, bxL]
    have hL := hS.ls.rdl
    rw [stl_end (by rw [wR_len]; exact hgl)] at hR
    have htl := totL_w (wR P)
    rw [wR_len] at htl
    have hva := iValidLevels_c (2 * q : Nat) s _ _ _ _ hS.ls.rd hL (by rw [htl]; exact hT)
    have gR : ∀ (x y z : LV), hput Z (X.length + 1) 0 0 [x, y, z] = some (Z.set (X.length + 1) ⟨0, false, 29, 3, [x, y, z]⟩) := fun x y z => hputA_at hS.res (by simp)
    have gR3 : ∀ cs : List LV, cs.length = 3 → hgets (Z.set (X.length + 1) ⟨0, false, 29, 3, cs⟩) (X.length + 1) 0 0 3 = some cs := fun cs hc => by
      rw [hgets_setS hS.ltR (by omega)]; simp [List.take_of_length_le (Nat.le_of_eq hc)]
    have hLS : ∀ o, LS Hb (Z.set (X.length + 1) o) A v P := fun o => hS.ls.setN o (by have := hS.lo; omega) hS.nA.2 (fun k hk => (hS.nk k hk).2)
    cases hlb : levB (2 * q : Nat) s ((wR P).map fun ws => ws.map some)
    · rw [hlb] at hva
      repeat' (first
 | ((with_reducible refine hK _ _ ?_); clear hK K)
 | ((first | (with_reducible show AOp _ _ _ _ _ _ _)); simp (disch := first | ((with_reducible show liveO _ _ _ = true); first | assumption | (exact hS.lvB) | (exact hS.lvA) | (exact hS.lvBA _) | (exact hS.lvAA _) | (exact hS.bSl _ _) | (exact lvI) | (exact lvJ _) | (exact bSl _ _) | (exact aSl _ _) | (exact hS.lvR) | (exact liveO_setS (by assumption)) | (exact PtL.live (by assumption)) | (exact PtL.liveA (by assumption) _) | (simp only [go_sem]; done)) | omega | assumption | rfl | (simp only [go_sem]; first | done | omega)) only [go_sem, reduceIte, reduceCtorEq, Nat.reduceAdd, Nat.reduceMul, Nat.reduceSub, Nat.reduceLeDiff, Nat.lt_irrefl, Nat.reduceLT, Nat.reduceEqDiff, Nat.reduceBEq, Int.reduceLE, Int.reduceLT, Int.reduceToNat, w64, eq_self, hS.gB, gB3, gR])
 | (with_reducible refine AW_seq (fun K hK => ?_))
 | (with_reducible refine AW_region tyOk ?_)
 | (with_reducible refine AOps_cons (fun K hK => ?_))
 | ((with_reducible refine AOps_nil ?_); try simp only [thenA, blockA, if_true, if_false, reduceIte, Nat.reduceEqDiff, reduceCtorEq])
 | (with_reducible refine AW_block ?_)
 | ((first | (with_reducible refine AW_ret ?_) | (with_reducible refine AW_skip ?_) | (with_reducible refine AW_exit ?_)); try simp only [thenA, blockA, if_true, if_false, reduceIte, Nat.reduceEqDiff, reduceCtorEq])
 | ((with_reducible show AW _ _ (.cond _ _ _) _ _ _); refine AW_cond rfl (fun hg => ?_) (fun hg => ?_) <;> first | (exfalso; simp only [reduceCtorEq] at hg; done) | ((try simp only [Bool.not_eq_true', Bool.not_eq_false', decide_eq_true_eq, decide_eq_false_iff_not] at hg); try (exfalso; omega)))
 | ((with_reducible show _ ∧ _); refine And.intro (fun hg => ?_) (fun hg => ?_) <;> (try simp only [Bool.not_eq_true', Bool.not_eq_false'] at hg) <;> simp only [hg] <;> (try simp only [decide_eq_true_eq, decide_eq_false_iff_not] at hg) <;> (try (exfalso; omega)))
 | ((with_reducible apply FunH_intro); (first | exact hva))
 | (clear hK K)
        | fail)
      refine EndA_same (by first | exact Or.inr rfl | exact Or.inl rfl) (by simp only [Try.results19, resA, aresL, gR3, go_sem] <;> rfl) ?_
      unfold stQ
      rw [← hR, if_neg (by rw [hlb]; exact Bool.false_ne_true)]
      exact ⟨rfl, (hLS _).pre⟩
    · rw [hlb] at hva
      repeat' (first
 | ((with_reducible refine hK _ _ ?_); clear hK K)
 | ((first | (with_reducible show AOp _ _ _ _ _ _ _)); simp (disch := first | ((with_reducible show liveO _ _ _ = true); first | assumption | (exact hS.lvB) | (exact hS.lvA) | (exact hS.lvBA _) | (exact hS.lvAA _) | (exact hS.bSl _ _) | (exact lvI) | (exact lvJ _) | (exact bSl _ _) | (exact aSl _ _) | (exact hS.lvR) | (exact liveO_setS (by assumption)) | (exact PtL.live (by assumption)) | (exact PtL.liveA (by assumption) _) | (simp only [go_sem]; done)) | omega | assumption | rfl | (simp only [go_sem]; first | done | omega)) only [go_sem, reduceIte, reduceCtorEq, Nat.reduceAdd, Nat.reduceMul, Nat.reduceSub, Nat.reduceLeDiff, Nat.lt_irrefl, Nat.reduceLT, Nat.reduceEqDiff, Nat.reduceBEq, Int.reduceLE, Int.reduceLT, Int.reduceToNat, w64, eq_self, hS.gB, gB3, gR])
 | (with_reducible refine AW_seq (fun K hK => ?_))
 | (with_reducible refine AW_region tyOk ?_)
 | (with_reducible refine AOps_cons (fun K hK => ?_))
 | ((with_reducible refine AOps_nil ?_); try simp only [thenA, blockA, if_true, if_false, reduceIte, Nat.reduceEqDiff, reduceCtorEq])
 | (with_reducible refine AW_block ?_)
 | ((first | (with_reducible refine AW_ret ?_) | (with_reducible refine AW_skip ?_) | (with_reducible refine AW_exit ?_)); try simp only [thenA, blockA, if_true, if_false, reduceIte, Nat.reduceEqDiff, reduceCtorEq])
 | ((with_reducible show AW _ _ (.cond _ _ _) _ _ _); refine AW_cond rfl (fun hg => ?_) (fun hg => ?_) <;> first | (exfalso; simp only [reduceCtorEq] at hg; done) | ((try simp only [Bool.not_eq_true', Bool.not_eq_false', decide_eq_true_eq, decide_eq_false_iff_not] at hg); try (exfalso; omega)))
 | ((with_reducible show _ ∧ _); refine And.intro (fun hg => ?_) (fun hg => ?_) <;> (try simp only [Bool.not_eq_true', Bool.not_eq_false'] at hg) <;> simp only [hg] <;> (try simp only [decide_eq_true_eq, decide_eq_false_iff_not] at hg) <;> (try (exfalso; omega)))
 | ((with_reducible apply FunH_intro); (first | exact hva))
 | (clear hK K)
        | fail)
      refine EndA_same (by first | exact Or.inr rfl | exact Or.inl rfl) (by simp only [Try.results19, resA, aresL, gR3, go_sem] <;> rfl) ?_
      unfold stQ
      rw [← hR, if_pos hlb]
      exact ⟨v, P, rfl, rfl, hLS _⟩
end Go.Proofs.Yteejnmgjjefbiaa
