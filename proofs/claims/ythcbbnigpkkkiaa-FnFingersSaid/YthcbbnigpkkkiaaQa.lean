/- The three cells of a key and its mark, in the abstract machine. -/
import Derived.Test.YthcbbnigpkkkiaaDa
import Derived.Test.YthcbbnigpkkkiaaNk
namespace Go.Proofs.Ythcbbnigpkkkiaa
open Go.RowKit
set_option linter.unusedSimpArgs false
set_option linter.unusedVariables false
set_option maxRecDepth 100000

def pkI (k n s : Int) (j : Nat) : Int := (j : Int) * n + belowI k (saltI s (j : Nat)) n
def thrL (k n s : Int) (m : Nat) : List Int := (List.range m).map (pkI k n s)
def mkI (k s : Int) : Int := belowI k (saltI s 3) 255 + 1
theorem thrL_len (k n s : Int) (m : Nat) : (thrL k n s m).length = m := by simp [thrL]
theorem thrL_succ (k n s : Int) (m : Nat) : thrL k n s (m + 1) = thrL k n s m ++ [pkI k n s m] := by simp [thrL, List.range_succ]
theorem pkI_b {k n s : Int} (hn : 1 ≤ n ∧ n ≤ 128) {j : Nat} (hj : j < 3) : 0 ≤ pkI k n s j ∧ pkI k n s j < 3 * n ∧ (j : Int) * n ≤ pkI k n s j ∧ pkI k n s j < ((j : Int) + 1) * n := by
  obtain ⟨h1, h2⟩ := belowI_b k (saltI s (j : Nat)) n hn.1 (by omega)
  unfold pkI
  have h3 : (j : Int) = 0 ∨ (j : Int) = 1 ∨ (j : Int) = 2 := by omega
  generalize belowI k (saltI s (j : Nat)) n = x at h1 h2 ⊢
  rcases h3 with h | h | h <;> rw [h] <;> omega
theorem mkI_b (k s : Int) : 1 ≤ mkI k s ∧ mkI k s ≤ 255 := by
  have := belowI_b k (saltI s 3) 255 (by omega) (by omega)
  unfold mkI; omega
theorem hput_one {el sz i : Nat} {cs : List LV} (x : LV) (H : Hp) (h : i + 1 ≤ cs.length) : hput (⟨0, false, el, sz, cs⟩ :: H) 0 0 i [x] = some (⟨0, false, el, sz, cs.set i x⟩ :: H) := by
  simp [hput, sets, h]
set_option maxHeartbeats 2000000 in
theorem peelPlaces_c (k n s : Int) (hk : 0 ≤ k ∧ k ≤ 4294967295) (hn : 1 ≤ n ∧ n ≤ 128) (hs : 0 ≤ s ∧ s ≤ 4294967295) (H : Hp) :
    FunH Try.prog 25 [.int .i64 k, .int .i64 n, .int .i64 s] H fun r H' => r = .tup [.agg ((thrL k n s 3).map (LV.int .i64)), .int .i64 (mkI k s)] ∧ H' = H := by
  have hc := fun (j : Nat) (hj : j < 4) H => salted_c s (j : Nat) hs.1 hs.2 (by omega) (by omega) H
  have hb := fun (j : Nat) H => below_c k (saltI s (j : Nat)) n hk.1 hk.2 (saltI_b s j).1 (saltI_b s j).2 hn.1 (by omega) H
  have hb3 := fun H => below_c k (saltI s 3) 255 hk.1 hk.2 (saltI_b s 3).1 (saltI_b s 3).2 (by omega) (by omega) H
  have hc3 := fun H => salted_c s 3 hs.1 hs.2 (by omega) (by omega) H
  have hm := mkI_b k s
  unfold mkI at hm
  (refine FunH_body tyOk Try.func25 rfl (by kernel_rfl) Try.ntmps25 (fun hcl hbd => ?_); simp only [List.length_cons, List.length_nil, Nat.reduceAdd, Nat.reduceSub, List.replicate, List.cons_append, List.nil_append])
  repeat' (first
 | ((with_reducible refine hK _ _ ?_); clear hK K)
 | ((first | (with_reducible show AOp _ _ _ _ _ _ _)); simp (disch := first | ((with_reducible show liveO _ _ _ = true); first | assumption | (exact liveO_setS (by assumption)) | (exact PtL.live (by assumption)) | (exact PtL.liveA (by assumption) _) | (simp only [go_sem]; done)) | omega | assumption | rfl | (simp only [go_sem]; first | done | omega)) only [go_sem, reduceIte, reduceCtorEq, Nat.reduceAdd, Nat.reduceMul, Nat.reduceSub, Nat.reduceLeDiff, Nat.lt_irrefl, Nat.reduceLT, Nat.reduceEqDiff, Nat.reduceBEq, Int.reduceLE, Int.reduceLT, Int.reduceToNat, w64, eq_self])
 | (with_reducible refine AW_seq (fun K hK => ?_))
 | (with_reducible refine AW_region tyOk ?_)
 | (with_reducible refine AOps_cons (fun K hK => ?_))
 | ((with_reducible refine AOps_nil ?_); try simp only [thenA, blockA, if_true, if_false, reduceIte, Nat.reduceEqDiff, reduceCtorEq])
 | (with_reducible refine AW_block ?_)
 | ((first | (with_reducible refine AW_ret ?_) | (with_reducible refine AW_skip ?_) | (with_reducible refine AW_exit ?_)); try simp only [thenA, blockA, if_true, if_false, reduceIte, Nat.reduceEqDiff, reduceCtorEq])
 | ((with_reducible show AW _ _ (.cond _ _ _) _ _ _); refine AW_cond rfl (fun hg => ?_) (fun hg => ?_) <;> first | (exfalso; simp only [reduceCtorEq] at hg; done) | ((try simp only [Bool.not_eq_true', Bool.not_eq_false', decide_eq_true_eq, decide_eq_false_iff_not] at hg); try (exfalso; omega)))
 | ((with_reducible show _ ∧ _); refine And.intro (fun hg => ?_) (fun hg => ?_) <;> (try simp only [Bool.not_eq_true', Bool.not_eq_false'] at hg) <;> simp only [hg] <;> (try simp only [decide_eq_true_eq, decide_eq_false_iff_not] at hg) <;> (try (exfalso; omega)))
 | (clear hK K)
    | fail)
  refine AW_loopV [9, 11, 12, 13, 14, 15, 16, 17, 18, 19, 20, 21, 22, 23, 24, 25, 26] (fun i : Nat => [(11, .int .i64 (i : Nat))]) (fun i => H ++ [⟨0, false, 50, 3, [.int .i64 0, .int .i64 0, .int .i64 0]⟩, ⟨0, false, 50, 3, (thrL k n s i).map (LV.int .i64) ++ List.replicate (3 - i) (.int .i64 0)⟩]) (fun i => i ≤ 3) (fun i => 3 - i) 0 (Nat.zero_le _) ?_ rfl ?_
  · simp only [junkAll, setAll, List.foldl_cons, List.foldl_nil, List.set_cons_succ, List.set_cons_zero, JL, true_or, or_true, and_true, true_and, reduceCtorEq, false_or, or_false, LV.int.injEq, LV.bool.injEq, LV.flt.injEq, LV.sl.injEq, LV.ptr.injEq, eq_self, Int.natCast_add, Int.natCast_one, Int.natCast_zero, Int.ofNat_zero]
  intro i hi K hK
  simp only [junkAll, setAll, List.foldl_cons, List.foldl_nil, List.set_cons_succ, List.set_cons_zero]
  by_cases hi3 : i < 3
  · obtain ⟨p0, p1, p2, p3⟩ := pkI_b (k := k) (s := s) hn hi3
    have hin : 0 ≤ (i : Int) * n ∧ (i : Int) * n ≤ 384 := by
      have h3 : (i : Int) = 0 ∨ (i : Int) = 1 ∨ (i : Int) = 2 := by omega
      rcases h3 with h | h | h <;> rw [h] <;> omega
    have hw1 : IntKind.i64.wrap ((i : Int) * n) = (i : Int) * n := w64 _ (by omega) (by omega)
    have hw2 : IntKind.i64.wrap ((i : Int) * n + belowI k (saltI s (i : Nat)) n) = pkI k n s i := w64 _ (by unfold pkI at p0; omega) (by unfold pkI at p1; omega)
    have hl3 : ((thrL k n s i).map (LV.int .i64) ++ List.replicate (3 - i) (LV.int .i64 0)).length = 3 := by rw [List.length_append, List.length_map, List.length_replicate, thrL_len]; omega
    have hset : ((thrL k n s i).map (LV.int .i64) ++ List.replicate (3 - i) (LV.int .i64 0)).set i (.int .i64 (pkI k n s i)) = (thrL k n s (i + 1)).map (LV.int .i64) ++ List.replicate (3 - (i + 1)) (LV.int .i64 0) := by
      rw [List.set_append_right _ _ (by rw [List.length_map, thrL_len]; omega), List.length_map, thrL_len, Nat.sub_self, thrL_succ, List.map_append, show 3 - i = (3 - (i + 1)) + 1 by omega, List.replicate_succ, List.set_cons_zero, List.append_assoc]
      rfl
    have hpq : hput [(⟨0, false, 50, 3, (thrL k n s i).map (LV.int .i64) ++ List.replicate (3 - i) (LV.int .i64 0)⟩ : AO)] 0 0 i [.int .i64 (pkI k n s i)] = some [⟨0, false, 50, 3, (thrL k n s (i + 1)).map (LV.int .i64) ++ List.replicate (3 - (i + 1)) (LV.int .i64 0)⟩] := by
      rw [← hset]; exact hput_one _ _ (by omega)
    repeat' (first
 | ((with_reducible refine hK _ _ ?_); clear hK K)
 | ((first | (with_reducible show AOp _ _ _ _ _ _ _)); simp (disch := first | ((with_reducible show liveO _ _ _ = true); first | assumption | (exact liveO_setS (by assumption)) | (exact PtL.live (by assumption)) | (exact PtL.liveA (by assumption) _) | (simp only [go_sem]; done)) | omega | assumption | rfl | (simp only [go_sem]; first | done | omega)) only [go_sem, reduceIte, reduceCtorEq, Nat.reduceAdd, Nat.reduceMul, Nat.reduceSub, Nat.reduceLeDiff, Nat.lt_irrefl, Nat.reduceLT, Nat.reduceEqDiff, Nat.reduceBEq, Int.reduceLE, Int.reduceLT, Int.reduceToNat, w64, eq_self, hw1, hw2, hpq])
 | (with_reducible refine AW_seq (fun K hK => ?_))
 | (with_reducible refine AW_region tyOk ?_)
 | (with_reducible refine AOps_cons (fun K hK => ?_))
 | ((with_reducible refine AOps_nil ?_); try simp only [thenA, blockA, if_true, if_false, reduceIte, Nat.reduceEqDiff, reduceCtorEq])
 | (with_reducible refine AW_block ?_)
 | ((first | (with_reducible refine AW_ret ?_) | (with_reducible refine AW_skip ?_) | (with_reducible refine AW_exit ?_)); try simp only [thenA, blockA, if_true, if_false, reduceIte, Nat.reduceEqDiff, reduceCtorEq])
 | ((with_reducible show AW _ _ (.cond _ _ _) _ _ _); refine AW_cond rfl (fun hg => ?_) (fun hg => ?_) <;> first | (exfalso; simp only [reduceCtorEq] at hg; done) | ((try simp only [Bool.not_eq_true', Bool.not_eq_false', decide_eq_true_eq, decide_eq_false_iff_not] at hg); try (exfalso; omega)))
 | ((with_reducible show _ ∧ _); refine And.intro (fun hg => ?_) (fun hg => ?_) <;> (try simp only [Bool.not_eq_true', Bool.not_eq_false'] at hg) <;> simp only [hg] <;> (try simp only [decide_eq_true_eq, decide_eq_false_iff_not] at hg) <;> (try (exfalso; omega)))
 | ((with_reducible apply FunH_intro); (first | ((with_reducible show FunH _ 33 _ _ _); exact hc i (by omega) _) | ((with_reducible show FunH _ 32 _ _ _); exact hb i _)))
 | (clear hK K)
      | fail)
    refine hK _ _ (i + 1) (by omega) (by omega) ?_ rfl
    simp only [junkAll, setAll, List.foldl_cons, List.foldl_nil, List.set_cons_succ, List.set_cons_zero, JL, true_or, or_true, and_true, true_and, reduceCtorEq, false_or, or_false, LV.int.injEq, LV.bool.injEq, LV.flt.injEq, LV.sl.injEq, LV.ptr.injEq, eq_self, Int.natCast_add, Int.natCast_one, Int.natCast_zero, Int.ofNat_zero]
  · have : i = 3 := by omega
    subst this
    have hg3 : hgets [(⟨0, false, 50, 3, (thrL k n s 3).map (LV.int .i64)⟩ : AO)] 0 0 0 3 = some ((thrL k n s 3).map (LV.int .i64)) := by
      simp [hgets, thrL_len, List.take_of_length_le]
    have hl3 : ((thrL k n s 3).map (LV.int .i64)).length = 3 := by rw [List.length_map, thrL_len]
    have hi3 : ((thrL k n s 3).map (LV.int .i64)).all LV.isCell = true := by rw [List.all_eq_true]; intro x hx; obtain ⟨y, _, rfl⟩ := List.mem_map.1 hx; rfl
    have hs3 : sets [LV.int .i64 0, LV.int .i64 0, LV.int .i64 0] 0 ((thrL k n s 3).map (LV.int .i64)) = (thrL k n s 3).map (LV.int .i64) := rfl
    have hp0 : ∀ b : AO, hput [(⟨0, false, 50, 3, [.int .i64 0, .int .i64 0, .int .i64 0]⟩ : AO), b] 0 0 0 ((thrL k n s 3).map (LV.int .i64)) = some [⟨0, false, 50, 3, (thrL k n s 3).map (LV.int .i64)⟩, b] := fun b => rfl
    repeat' (first
 | ((with_reducible refine hK _ _ ?_); clear hK K)
 | ((with_reducible refine hK _ ?_); clear hK K; try simp only [])
 | ((first | (with_reducible show AOp _ _ _ _ _ _ _) | (with_reducible show AQOp _ _ _ _ _ _ _)); simp (disch := first | ((with_reducible show liveO _ _ _ = true); first | assumption | (exact liveO_setS (by assumption)) | (exact PtL.live (by assumption)) | (exact PtL.liveA (by assumption) _) | (simp only [go_sem]; done)) | omega | assumption | rfl | (simp only [go_sem]; first | done | omega)) only [go_sem, reduceIte, reduceCtorEq, Nat.reduceAdd, Nat.reduceMul, Nat.reduceSub, Nat.reduceLeDiff, Nat.lt_irrefl, Nat.reduceLT, Nat.reduceEqDiff, Nat.reduceBEq, Int.reduceLE, Int.reduceLT, Int.reduceToNat, w64, eq_self, hg3, hi3, hl3, hp0])
 | (with_reducible refine AW_seq (fun K hK => ?_))
 | (with_reducible refine AW_region tyOk ?_)
 | ((with_reducible apply AW_tree (id := 7) tyOk 8); (kernel_rfl); (exact rfl))
 | ((with_reducible refine AAny_leaf (by decide +kernel) ?_); exact ⟨rfl, rfl⟩)
 | (with_reducible refine AAny_step 0 [1, 2] (by decide +kernel) ?_)
 | (with_reducible refine AAny_step 0 [1, 3] (by decide +kernel) ?_)
 | (with_reducible refine AAny_step 0 [1] (by decide +kernel) ?_)
 | (with_reducible refine AAny_step 0 [2] (by decide +kernel) ?_)
 | (with_reducible refine AAny_step 0 [3] (by decide +kernel) ?_)
 | (with_reducible refine AAny_step 0 [4] (by decide +kernel) ?_)
 | (with_reducible refine AAny_step 0 [5] (by decide +kernel) ?_)
 | (with_reducible refine AAny_step 1 [2] (by decide +kernel) ?_)
 | (with_reducible refine AAny_step 1 [3] (by decide +kernel) ?_)
 | (with_reducible refine AAny_step 5 [6] (by decide +kernel) ?_)
 | (with_reducible refine AAny_step 0 [] (by decide +kernel) ?_)
 | (with_reducible refine AAny_step 1 [] (by decide +kernel) ?_)
 | (with_reducible refine AAny_step 2 [] (by decide +kernel) ?_)
 | (with_reducible refine AAny_step 3 [] (by decide +kernel) ?_)
 | (with_reducible refine AAny_step 4 [] (by decide +kernel) ?_)
 | (with_reducible refine AAny_step 5 [] (by decide +kernel) ?_)
 | (with_reducible refine AAny_step 6 [] (by decide +kernel) ?_)
 | (with_reducible refine AAny_step 7 [] (by decide +kernel) ?_)
 | (with_reducible refine AAll_cons rfl (fun K hK => ?_) ?_)
 | (with_reducible exact AAll_nil)
 | ((with_reducible show thenA _ _ _ _ _); simp only [thenA, blockA, if_true, if_false, reduceIte])
 | (with_reducible refine AOps_cons (fun K hK => ?_))
 | (with_reducible refine AQOps_cons (fun K hK => ?_))
 | ((with_reducible refine AQOps_nil ?_); try simp only [thenA, blockA, if_true, if_false, reduceIte, Nat.reduceEqDiff, reduceCtorEq])
 | ((with_reducible refine AOps_nil ?_); try simp only [thenA, blockA, if_true, if_false, reduceIte, Nat.reduceEqDiff, reduceCtorEq])
 | (with_reducible refine AW_block ?_)
 | ((first | (with_reducible refine AW_ret ?_) | (with_reducible refine AW_skip ?_) | (with_reducible refine AW_exit ?_)); try simp only [thenA, blockA, if_true, if_false, reduceIte, Nat.reduceEqDiff, reduceCtorEq])
 | ((with_reducible show AW _ _ (.cond _ _ _) _ _ _); refine AW_cond rfl (fun hg => ?_) (fun hg => ?_) <;> first | (exfalso; simp only [reduceCtorEq] at hg; done) | ((try simp only [Bool.not_eq_true', Bool.not_eq_false', decide_eq_true_eq, decide_eq_false_iff_not] at hg); try (exfalso; omega)))
 | ((with_reducible show _ ∧ _); refine And.intro (fun hg => ?_) (fun hg => ?_) <;> (try simp only [Bool.not_eq_true', Bool.not_eq_false'] at hg) <;> simp only [hg] <;> (try simp only [decide_eq_true_eq, decide_eq_false_iff_not] at hg) <;> (try (exfalso; omega)))
 | ((first | (with_reducible apply FunH_intro) | (with_reducible apply AQ_intro)); (first | ((with_reducible show FunH _ 33 _ _ _); exact hc3 _) | ((with_reducible show FunH _ 32 _ _ _); exact hb3 _)))
 | (clear hK K)
      | fail)
    all_goals (refine EndA_cut hcl (by first | exact Or.inr rfl | exact Or.inl rfl) (by simp only [Try.results25, resA, aresL, go_sem, reduceIte, reduceCtorEq, Nat.reduceAdd, Nat.reduceMul, Nat.reduceSub, Nat.reduceLeDiff, Nat.lt_irrefl, Nat.reduceLT, Nat.reduceEqDiff, Nat.reduceBEq, Int.reduceLE, Int.reduceLT, Int.reduceToNat, w64, eq_self] <;> rfl) rfl ?_)
    all_goals exact ⟨rfl, rfl⟩
end Go.Proofs.Ythcbbnigpkkkiaa
