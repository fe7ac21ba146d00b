/- A finger put into cells, in the abstract machine. -/
import Derived.Test.YthcbbnigpkkkiaaDd
namespace Go.Proofs.Ythcbbnigpkkkiaa
open Go.RowKit
set_option linter.unusedSimpArgs false
set_option linter.unusedVariables false
set_option maxRecDepth 100000

theorem int_bnd (xs : List Int) : ∀ c ∈ xs.map (LV.int .i64), ∀ n, bnd n c := by
  intro c hc n; obtain ⟨_, _, rfl⟩ := List.mem_map.1 hc; trivial
theorem setI_map (xs : List Int) (k : Nat) (x : Int) : (xs.map (LV.int .i64)).set k (.int .i64 x) = (xs.set k x).map (LV.int .i64) := by rw [List.map_set]
/-- The first cell of a house with a number. -/
def chP (cs : List Int) (h : Nat) (old : Int) : Option Nat := if ix cs (2 * h) = old then some (2 * h) else if ix cs (2 * h + 1) = old then some (2 * h + 1) else none
set_option maxHeartbeats 2000000 in
theorem change_some (b vb el h p : Nat) (s old new : Int) (cs : List Int) (H : Hp) (hb : H[b]? = some ⟨vb, false, el, 1, cs.map (LV.int .i64)⟩) (hh : 2 * h + 1 < cs.length) (hn : cs.length ≤ 256) (hp : chP cs h old = some p) :
    FunH Try.prog 18 [.agg [.int .i64 s, .sl b vb 0 cs.length none], .int .i64 (h : Nat), .int .i64 old, .int .i64 new] H fun r H' => r = .bool true ∧ H' = H.set b ⟨vb, false, el, 1, (cs.set p new).map (LV.int .i64)⟩ := by
  have hid := lt_of_get hb
  have hr : RdL H (.sl b vb 0 cs.length none) (cs.map (LV.int .i64)) := RdL_id hb (by simp)
  have hpp : p = 2 * h ∨ p = 2 * h + 1 := by
    unfold chP at hp
    split at hp
    · cases hp; exact Or.inl rfl
    · split at hp
      · cases hp; exact Or.inr rfl
      · cases hp
  have hpx : ix cs p = old ∧ ∀ j, 2 * h ≤ j → j < p → ix cs j ≠ old := by
    unfold chP at hp
    split at hp
    · rename_i h1
      cases hp; exact ⟨h1, fun j _ _ => by omega⟩
    · rename_i h1
      split at hp
      · rename_i h2
        cases hp; refine ⟨h2, fun j j1 j2 => ?_⟩
        rw [show j = 2 * h by omega]; exact h1
      · cases hp
  obtain ⟨hx, hno⟩ := hpx
  (refine FunH_body tyOk Try.func18 rfl (by kernel_rfl) Try.ntmps18 (fun hcl hbd => ?_); simp only [List.length_cons, List.length_nil, Nat.reduceAdd, Nat.reduceSub, List.replicate, List.cons_append, List.nil_append])
  repeat' (first
    | ((with_reducible refine hK _ _ ?_); clear hK K)
    | ((first | (with_reducible show AOp _ _ _ _ _ _ _)); simp (disch := first | ((with_reducible show liveO _ _ _ = true); first | assumption | (exact liveO_setS (by assumption)) | (exact PtL.live (by assumption)) | (exact PtL.liveA (by assumption) _) | (simp only [go_sem]; done)) | omega | assumption | rfl | (simp only [go_sem]; first | done | omega)) only [go_sem, reduceIte, reduceCtorEq, Nat.reduceAdd, Nat.reduceMul, Nat.reduceSub, Nat.reduceLeDiff, Nat.lt_irrefl, Nat.reduceLT, Nat.reduceEqDiff, Nat.reduceBEq, Int.reduceLE, Int.reduceLT, Int.reduceToNat, w64, eq_self])
    | (with_reducible refine AW_seq (fun K hK => ?_))
    | (with_reducible refine AW_region tyOk ?_)
    | (with_reducible refine AOps_cons (fun K hK => ?_))
    | ((with_reducible refine AOps_nil ?_); try simp only [thenA, blockA, if_true, if_false, reduceIte, Nat.reduceEqDiff, reduceCtorEq])
    | (with_reducible refine AW_block ?_)
    | ((first | (with_reducible refine AW_ret ?_) | (with_reducible refine AW_skip ?_) | (with_reducible refine AW_exit ?_)); try simp only [thenA, blockA, if_true, if_false, reduceIte, Nat.reduceEqDiff, reduceCtorEq])
    | ((with_reducible show AW _ _ (.cond _ _ _) _ _ _); refine AW_cond rfl (fun hg => ?_) (fun hg => ?_) <;> first | (exfalso; simp only [reduceCtorEq] at hg; done) | ((try simp only [Bool.not_eq_true', Bool.not_eq_false', decide_eq_true_eq, decide_eq_false_iff_not] at hg); try (exfalso; omega)))
    | ((with_reducible show _ ∧ _); refine And.intro (fun hg => ?_) (fun hg => ?_) <;> (try simp only [Bool.not_eq_true', Bool.not_eq_false'] at hg) <;> simp only [hg] <;> (try simp only [decide_eq_true_eq, decide_eq_false_iff_not] at hg) <;> (try (exfalso; omega)))
    | (clear hK K)
    | fail)
  refine AW_loopV [8, 9, 12, 13, 14, 15, 16, 17, 18, 19, 20, 21, 22, 23, 24, 25, 26, 27, 28, 29, 30] (fun k : Nat => [(9, .int .i64 (k : Nat))]) (fun _ => H ++ [⟨0, false, 28, 2, [.int .i64 s, .sl b vb 0 cs.length none]⟩]) (fun k => 2 * h ≤ k ∧ k ≤ p) (fun k => p - k) (2 * h) ⟨Nat.le_refl _, by omega⟩ ?_ rfl ?_
  · simp only [junkAll, setAll, List.foldl_cons, List.foldl_nil, List.set_cons_succ, List.set_cons_zero, JL, true_or, or_true, and_true, true_and, reduceCtorEq, false_or, or_false, LV.int.injEq, LV.bool.injEq, LV.flt.injEq, LV.sl.injEq, LV.ptr.injEq, eq_self, Int.natCast_add, Int.natCast_one, Int.natCast_zero, Int.ofNat_zero]; omega
  · intro k ⟨k1, k2⟩ K hK
    simp only [junkAll, setAll, List.foldl_cons, List.foldl_nil, List.set_cons_succ, List.set_cons_zero]
    by_cases hk : k < p
    · have hne : (ix cs k == old) = false := beq_eq_false_iff_ne.2 (hno k k1 hk)
      repeat' (first
        | ((with_reducible refine hK _ _ ?_); clear hK K)
        | ((first | (with_reducible show AOp _ _ _ _ _ _ _)); simp (disch := first | ((with_reducible show liveO _ _ _ = true); first | assumption | (exact liveO_setS (by assumption)) | (exact PtL.live (by assumption)) | (exact PtL.liveA (by assumption) _) | (simp only [go_sem]; done)) | omega | assumption | rfl | (simp only [go_sem]; first | done | omega)) only [go_sem, reduceIte, reduceCtorEq, Nat.reduceAdd, Nat.reduceMul, Nat.reduceSub, Nat.reduceLeDiff, Nat.lt_irrefl, Nat.reduceLT, Nat.reduceEqDiff, Nat.reduceBEq, Int.reduceLE, Int.reduceLT, Int.reduceToNat, w64, eq_self, hr.idxmA, hr.ldmA, hne])
        | (with_reducible refine AW_seq (fun K hK => ?_))
        | (with_reducible refine AW_region tyOk ?_)
        | (with_reducible refine AOps_cons (fun K hK => ?_))
        | ((with_reducible refine AOps_nil ?_); try simp only [thenA, blockA, if_true, if_false, reduceIte, Nat.reduceEqDiff, reduceCtorEq])
        | (with_reducible refine AW_block ?_)
        | ((first | (with_reducible refine AW_ret ?_) | (with_reducible refine AW_skip ?_) | (with_reducible refine AW_exit ?_)); try simp only [thenA, blockA, if_true, if_false, reduceIte, Nat.reduceEqDiff, reduceCtorEq])
        | ((with_reducible show AW _ _ (.cond _ _ _) _ _ _); refine AW_cond rfl (fun hg => ?_) (fun hg => ?_) <;> first | (exfalso; simp only [reduceCtorEq] at hg; done) | ((try simp only [Bool.not_eq_true', Bool.not_eq_false', decide_eq_true_eq, decide_eq_false_iff_not] at hg); try (exfalso; omega)))
        | ((with_reducible show _ ∧ _); refine And.intro (fun hg => ?_) (fun hg => ?_) <;> (try simp only [Bool.not_eq_true', Bool.not_eq_false'] at hg) <;> simp only [hg] <;> (try simp only [decide_eq_true_eq, decide_eq_false_iff_not] at hg) <;> (try (exfalso; omega)))
        | (clear hK K)
        | fail)
      refine hK _ _ (k + 1) ⟨by omega, by omega⟩ (by omega) ?_ rfl
      simp only [junkAll, setAll, List.foldl_cons, List.foldl_nil, List.set_cons_succ, List.set_cons_zero, JL, true_or, or_true, and_true, true_and, reduceCtorEq, false_or, or_false, LV.int.injEq, LV.bool.injEq, LV.flt.injEq, LV.sl.injEq, LV.ptr.injEq, eq_self, Int.natCast_add, Int.natCast_one, Int.natCast_zero, Int.ofNat_zero]
    · have ek : k = p := by omega
      subst ek
      have he : (ix cs k == old) = true := beq_iff_eq.2 hx
      have hlb : liveO (H ++ [⟨0, false, 28, 2, [.int .i64 s, .sl b vb 0 cs.length none]⟩]) b vb = true := by rw [liveO_app _ hid]; simp [liveO, hb]
      have hpu : hputP (H ++ [⟨0, false, 28, 2, [.int .i64 s, .sl b vb 0 cs.length none]⟩]) [.int .i64 new] (ptrOf (.sl b vb 0 cs.length none) k) = some (H.set b ⟨vb, false, el, 1, (cs.set k new).map (LV.int .i64)⟩ ++ [⟨0, false, 28, 2, [.int .i64 s, .sl b vb 0 cs.length none]⟩]) := by
        have e1 : H = H.set b ⟨vb, false, el, 1, cs.map (LV.int .i64)⟩ := (set_self hb).symm
        show hput _ b vb (0 + k) _ = _
        rw [Nat.zero_add]
        conv => lhs; rw [e1]
        rw [hput_setA hid (by simp; omega)]
        simp only [sets, setI_map]
      repeat' (first
        | ((with_reducible refine hK _ _ ?_); clear hK K)
        | ((first | (with_reducible show AOp _ _ _ _ _ _ _)); simp (disch := first | ((with_reducible show liveO _ _ _ = true); first | assumption | (exact liveO_setS (by assumption)) | (exact PtL.live (by assumption)) | (exact PtL.liveA (by assumption) _) | (simp only [go_sem]; done)) | omega | assumption | rfl | (simp only [go_sem]; first | done | omega)) only [go_sem, reduceIte, reduceCtorEq, Nat.reduceAdd, Nat.reduceMul, Nat.reduceSub, Nat.reduceLeDiff, Nat.lt_irrefl, Nat.reduceLT, Nat.reduceEqDiff, Nat.reduceBEq, Int.reduceLE, Int.reduceLT, Int.reduceToNat, w64, eq_self, hr.idxmA, hr.ldmA, he, hpu])
        | (with_reducible refine AW_seq (fun K hK => ?_))
        | (with_reducible refine AW_region tyOk ?_)
        | (with_reducible refine AOps_cons (fun K hK => ?_))
        | ((with_reducible refine AOps_nil ?_); try simp only [thenA, blockA, if_true, if_false, reduceIte, Nat.reduceEqDiff, reduceCtorEq])
        | (with_reducible refine AW_block ?_)
        | ((first | (with_reducible refine AW_ret ?_) | (with_reducible refine AW_skip ?_) | (with_reducible refine AW_exit ?_)); try simp only [thenA, blockA, if_true, if_false, reduceIte, Nat.reduceEqDiff, reduceCtorEq])
        | ((with_reducible show AW _ _ (.cond _ _ _) _ _ _); refine AW_cond rfl (fun hg => ?_) (fun hg => ?_) <;> first | (exfalso; simp only [reduceCtorEq] at hg; done) | ((try simp only [Bool.not_eq_true', Bool.not_eq_false', decide_eq_true_eq, decide_eq_false_iff_not] at hg); try (exfalso; omega)))
        | ((with_reducible show _ ∧ _); refine And.intro (fun hg => ?_) (fun hg => ?_) <;> (try simp only [Bool.not_eq_true', Bool.not_eq_false'] at hg) <;> simp only [hg] <;> (try simp only [decide_eq_true_eq, decide_eq_false_iff_not] at hg) <;> (try (exfalso; omega)))
        | (clear hK K)
        | fail)
      all_goals (refine EndA_cutS (H1 := H.set b ⟨vb, false, el, 1, (cs.set k new).map (LV.int .i64)⟩) (hcl.setScal b ⟨vb, false, el, 1, (cs.set k new).map (LV.int .i64)⟩ (int_bnd _)) (by simp) (by first | exact Or.inr rfl | exact Or.inl rfl) (by simp only [Try.results18, resA, aresL, go_sem, reduceIte, reduceCtorEq, Nat.reduceAdd, Nat.reduceMul, Nat.reduceSub, Nat.reduceLeDiff, Nat.lt_irrefl, Nat.reduceLT, Nat.reduceEqDiff, Nat.reduceBEq, Int.reduceLE, Int.reduceLT, Int.reduceToNat, w64, eq_self] <;> rfl) rfl ?_)
      all_goals exact ⟨rfl, rfl⟩
set_option maxHeartbeats 2000000 in
theorem change_none (b vb el h : Nat) (s old new : Int) (cs : List Int) (H : Hp) (hb : H[b]? = some ⟨vb, false, el, 1, cs.map (LV.int .i64)⟩) (hh : 2 * h + 1 < cs.length) (hn : cs.length ≤ 256) (hp : chP cs h old = none) :
    FunH Try.prog 18 [.agg [.int .i64 s, .sl b vb 0 cs.length none], .int .i64 (h : Nat), .int .i64 old, .int .i64 new] H fun r H' => r = .bool false ∧ H' = H := by
  have hr : RdL H (.sl b vb 0 cs.length none) (cs.map (LV.int .i64)) := RdL_id hb (by simp)
  have hno : ∀ j, 2 * h ≤ j → j < 2 * h + 2 → (ix cs j == old) = false := fun j j1 j2 => by
    unfold chP at hp
    split at hp
    · cases hp
    · rename_i h1
      split at hp
      · cases hp
      · rename_i h2
        rcases Nat.lt_or_ge (2 * h) j with h3 | h3
        · rw [show j = 2 * h + 1 by omega]; exact beq_eq_false_iff_ne.2 h2
        · rw [show j = 2 * h by omega]; exact beq_eq_false_iff_ne.2 h1
  (refine FunH_body tyOk Try.func18 rfl (by kernel_rfl) Try.ntmps18 (fun hcl hbd => ?_); simp only [List.length_cons, List.length_nil, Nat.reduceAdd, Nat.reduceSub, List.replicate, List.cons_append, List.nil_append])
  repeat' (first
    | ((with_reducible refine hK _ _ ?_); clear hK K)
    | ((first | (with_reducible show AOp _ _ _ _ _ _ _)); simp (disch := first | ((with_reducible show liveO _ _ _ = true); first | assumption | (exact liveO_setS (by assumption)) | (exact PtL.live (by assumption)) | (exact PtL.liveA (by assumption) _) | (simp only [go_sem]; done)) | omega | assumption | rfl | (simp only [go_sem]; first | done | omega)) only [go_sem, reduceIte, reduceCtorEq, Nat.reduceAdd, Nat.reduceMul, Nat.reduceSub, Nat.reduceLeDiff, Nat.lt_irrefl, Nat.reduceLT, Nat.reduceEqDiff, Nat.reduceBEq, Int.reduceLE, Int.reduceLT, Int.reduceToNat, w64, eq_self])
    | (with_reducible refine AW_seq (fun K hK => ?_))
    | (with_reducible refine AW_region tyOk ?_)
    | (with_reducible refine AOps_cons (fun K hK => ?_))
    | ((with_reducible refine AOps_nil ?_); try simp only [thenA, blockA, if_true, if_false, reduceIte, Nat.reduceEqDiff, reduceCtorEq])
    | (with_reducible refine AW_block ?_)
    | ((first | (with_reducible refine AW_ret ?_) | (with_reducible refine AW_skip ?_) | (with_reducible refine AW_exit ?_)); try simp only [thenA, blockA, if_true, if_false, reduceIte, Nat.reduceEqDiff, reduceCtorEq])
    | ((with_reducible show AW _ _ (.cond _ _ _) _ _ _); refine AW_cond rfl (fun hg => ?_) (fun hg => ?_) <;> first | (exfalso; simp only [reduceCtorEq] at hg; done) | ((try simp only [Bool.not_eq_true', Bool.not_eq_false', decide_eq_true_eq, decide_eq_false_iff_not] at hg); try (exfalso; omega)))
    | ((with_reducible show _ ∧ _); refine And.intro (fun hg => ?_) (fun hg => ?_) <;> (try simp only [Bool.not_eq_true', Bool.not_eq_false'] at hg) <;> simp only [hg] <;> (try simp only [decide_eq_true_eq, decide_eq_false_iff_not] at hg) <;> (try (exfalso; omega)))
    | (clear hK K)
    | fail)
  refine AW_loopV [8, 9, 12, 13, 14, 15, 16, 17, 18, 19, 20, 21, 22, 23, 24, 25, 26, 27, 28, 29, 30] (fun k : Nat => [(9, .int .i64 (k : Nat))]) (fun _ => H ++ [⟨0, false, 28, 2, [.int .i64 s, .sl b vb 0 cs.length none]⟩]) (fun k => 2 * h ≤ k ∧ k ≤ 2 * h + 2) (fun k => 2 * h + 2 - k) (2 * h) ⟨Nat.le_refl _, by omega⟩ ?_ rfl ?_
  · simp only [junkAll, setAll, List.foldl_cons, List.foldl_nil, List.set_cons_succ, List.set_cons_zero, JL, true_or, or_true, and_true, true_and, reduceCtorEq, false_or, or_false, LV.int.injEq, LV.bool.injEq, LV.flt.injEq, LV.sl.injEq, LV.ptr.injEq, eq_self, Int.natCast_add, Int.natCast_one, Int.natCast_zero, Int.ofNat_zero]; omega
  · intro k ⟨k1, k2⟩ K hK
    simp only [junkAll, setAll, List.foldl_cons, List.foldl_nil, List.set_cons_succ, List.set_cons_zero]
    by_cases hk : k < 2 * h + 2
    · have hne := hno k k1 hk
      repeat' (first
        | ((with_reducible refine hK _ _ ?_); clear hK K)
        | ((first | (with_reducible show AOp _ _ _ _ _ _ _)); simp (disch := first | ((with_reducible show liveO _ _ _ = true); first | assumption | (exact liveO_setS (by assumption)) | (exact PtL.live (by assumption)) | (exact PtL.liveA (by assumption) _) | (simp only [go_sem]; done)) | omega | assumption | rfl | (simp only [go_sem]; first | done | omega)) only [go_sem, reduceIte, reduceCtorEq, Nat.reduceAdd, Nat.reduceMul, Nat.reduceSub, Nat.reduceLeDiff, Nat.lt_irrefl, Nat.reduceLT, Nat.reduceEqDiff, Nat.reduceBEq, Int.reduceLE, Int.reduceLT, Int.reduceToNat, w64, eq_self, hr.idxmA, hr.ldmA, hne])
        | (with_reducible refine AW_seq (fun K hK => ?_))
        | (with_reducible refine AW_region tyOk ?_)
        | (with_reducible refine AOps_cons (fun K hK => ?_))
        | ((with_reducible refine AOps_nil ?_); try simp only [thenA, blockA, if_true, if_false, reduceIte, Nat.reduceEqDiff, reduceCtorEq])
        | (with_reducible refine AW_block ?_)
        | ((first | (with_reducible refine AW_ret ?_) | (with_reducible refine AW_skip ?_) | (with_reducible refine AW_exit ?_)); try simp only [thenA, blockA, if_true, if_false, reduceIte, Nat.reduceEqDiff, reduceCtorEq])
        | ((with_reducible show AW _ _ (.cond _ _ _) _ _ _); refine AW_cond rfl (fun hg => ?_) (fun hg => ?_) <;> first | (exfalso; simp only [reduceCtorEq] at hg; done) | ((try simp only [Bool.not_eq_true', Bool.not_eq_false', decide_eq_true_eq, decide_eq_false_iff_not] at hg); try (exfalso; omega)))
        | ((with_reducible show _ ∧ _); refine And.intro (fun hg => ?_) (fun hg => ?_) <;> (try simp only [Bool.not_eq_true', Bool.not_eq_false'] at hg) <;> simp only [hg] <;> (try simp only [decide_eq_true_eq, decide_eq_false_iff_not] at hg) <;> (try (exfalso; omega)))
        | (clear hK K)
        | fail)
      refine hK _ _ (k + 1) ⟨by omega, by omega⟩ (by omega) ?_ rfl
      simp only [junkAll, setAll, List.foldl_cons, List.foldl_nil, List.set_cons_succ, List.set_cons_zero, JL, true_or, or_true, and_true, true_and, reduceCtorEq, false_or, or_false, LV.int.injEq, LV.bool.injEq, LV.flt.injEq, LV.sl.injEq, LV.ptr.injEq, eq_self, Int.natCast_add, Int.natCast_one, Int.natCast_zero, Int.ofNat_zero]
    · repeat' (first
        | ((with_reducible refine hK _ _ ?_); clear hK K)
        | ((first | (with_reducible show AOp _ _ _ _ _ _ _)); simp (disch := first | ((with_reducible show liveO _ _ _ = true); first | assumption | (exact liveO_setS (by assumption)) | (exact PtL.live (by assumption)) | (exact PtL.liveA (by assumption) _) | (simp only [go_sem]; done)) | omega | assumption | rfl | (simp only [go_sem]; first | done | omega)) only [go_sem, reduceIte, reduceCtorEq, Nat.reduceAdd, Nat.reduceMul, Nat.reduceSub, Nat.reduceLeDiff, Nat.lt_irrefl, Nat.reduceLT, Nat.reduceEqDiff, Nat.reduceBEq, Int.reduceLE, Int.reduceLT, Int.reduceToNat, w64, eq_self])
        | (with_reducible refine AW_seq (fun K hK => ?_))
        | (with_reducible refine AW_region tyOk ?_)
        | (with_reducible refine AOps_cons (fun K hK => ?_))
        | ((with_reducible refine AOps_nil ?_); try simp only [thenA, blockA, if_true, if_false, reduceIte, Nat.reduceEqDiff, reduceCtorEq])
        | (with_reducible refine AW_block ?_)
        | ((first | (with_reducible refine AW_ret ?_) | (with_reducible refine AW_skip ?_) | (with_reducible refine AW_exit ?_)); try simp only [thenA, blockA, if_true, if_false, reduceIte, Nat.reduceEqDiff, reduceCtorEq])
        | ((with_reducible show AW _ _ (.cond _ _ _) _ _ _); refine AW_cond rfl (fun hg => ?_) (fun hg => ?_) <;> first | (exfalso; simp only [reduceCtorEq] at hg; done) | ((try simp only [Bool.not_eq_true', Bool.not_eq_false', decide_eq_true_eq, decide_eq_false_iff_not] at hg); try (exfalso; omega)))
        | ((with_reducible show _ ∧ _); refine And.intro (fun hg => ?_) (fun hg => ?_) <;> (try simp only [Bool.not_eq_true', Bool.not_eq_false'] at hg) <;> simp only [hg] <;> (try simp only [decide_eq_true_eq, decide_eq_false_iff_not] at hg) <;> (try (exfalso; omega)))
        | (clear hK K)
        | fail)
      all_goals (refine EndA_cut hcl (by first | exact Or.inr rfl | exact Or.inl rfl) (by simp only [Try.results18, resA, aresL, go_sem, reduceIte, reduceCtorEq, Nat.reduceAdd, Nat.reduceMul, Nat.reduceSub, Nat.reduceLeDiff, Nat.lt_irrefl, Nat.reduceLT, Nat.reduceEqDiff, Nat.reduceBEq, Int.reduceLE, Int.reduceLT, Int.reduceToNat, w64, eq_self] <;> rfl) rfl ?_)
      all_goals exact ⟨rfl, rfl⟩
def fdL (h o : Nat) : List Int := [((2 * h : Nat) : Int), ((2 * h + 1 : Nat) : Int), ((2 * o : Nat) : Int), ((2 * o + 1 : Nat) : Int)]
/-- The first cell of two houses with a number. -/
def fdI (cs : List Int) (h o : Nat) (x : Int) : Int := match (fdL h o).find? fun i => decide (ix cs i.toNat = x) with
  | some i => i
  | none => -1
theorem fdI_eq (cs : List Int) (h o : Nat) (x : Int) : fdI cs h o x = match chP cs h x with
    | some p => (p : Nat)
    | none => match chP cs o x with
      | some p => (p : Nat)
      | none => -1 := by
  unfold fdI fdL chP
  simp only [List.find?_cons, List.find?_nil, Int.toNat_natCast]
  by_cases h1 : ix cs (2 * h) = x
  · simp only [h1, eq_self, decide_true, if_true]
  · by_cases h2 : ix cs (2 * h + 1) = x
    · simp only [h1, h2, eq_self, decide_true, decide_false, if_true, if_false]
    · by_cases h3 : ix cs (2 * o) = x
      · simp only [h1, h2, h3, eq_self, decide_true, decide_false, if_true, if_false]
      · by_cases h4 : ix cs (2 * o + 1) = x
        · simp only [h1, h2, h3, h4, eq_self, decide_true, decide_false, if_true, if_false]
        · simp only [h1, h2, h3, h4, decide_false, if_false]
end Go.Proofs.Ythcbbnigpkkkiaa
