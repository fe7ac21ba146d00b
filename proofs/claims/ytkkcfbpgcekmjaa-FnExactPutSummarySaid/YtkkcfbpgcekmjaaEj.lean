/- Two summaries merged, in the abstract machine: the program's closure. -/
import Derived.Test.YtkkcfbpgcekmjaaZn
import Derived.Test.YtkkcfbpgcekmjaaEf
import Derived.Test.YtkkcfbpgcekmjaaZo
namespace Go.Proofs.Ytkkcfbpgcekmjaa
open Go.RowKit
set_option linter.unusedSimpArgs false
set_option linter.unusedVariables false
set_option maxRecDepth 100000

theorem Closed.setB {H : Hp} (h : Closed H) (id : Nat) (o : AO) (ho : ∀ c ∈ o.cs, bnd H.length c) : Closed (H.set id o) := by
  intro i q hq c hc
  rw [List.length_set]
  by_cases e : i = id
  · subst e
    rw [List.getElem?_set] at hq
    simp only [if_true] at hq
    split at hq
    · cases hq; exact ho c hc
    · cases hq
  · rw [List.getElem?_set_ne (Ne.symm e)] at hq
    exact h i q hq c hc
theorem EndA_cutM {T : Tab} {He H0 L1 K : Hp} {rs : List ResultVar} {Q : LV → Hp → Prop} {e : Exit} {tm : List LV} {r : LV} (hc : Closed (H0 ++ L1)) (hl : He.length ≤ (H0 ++ L1).length) (he : e = .normal ∨ e = .ret) (h : resA T tm (H0 ++ (L1 ++ K)) rs = some r) (hr : renT (keepσ (H0 ++ L1).length []) r = r) (hq : Q r (H0 ++ L1)) : EndA T He rs Q e tm (H0 ++ (L1 ++ K)) := by
  rw [← List.append_assoc] at h ⊢
  exact EndA_cutS hc hl he h hr hq
theorem flt_bndX (k : FloatKind) (xs : List (Option Nat)) : ∀ c ∈ xs.map (LV.flt k), ∀ n, bnd n c := by
  intro c hc n; obtain ⟨_, _, rfl⟩ := List.mem_map.1 hc; exact trivial
theorem int_bndX (k : IntKind) (xs : List Int) : ∀ c ∈ xs.map (LV.int k), ∀ n, bnd n c := by
  intro c hc n; obtain ⟨_, _, rfl⟩ := List.mem_map.1 hc; exact trivial
/-- What the first tuple behind adds to a slack. -/
def exI (gs ss : List Int) (k : Nat) : Int := if k < gs.length then ix gs k + ix ss k - 1 else 0
theorem extra_c (n c : Int) (x y z : LV) (vs : List (Option Nat)) (gs ss : List Int) (k : Nat) (H : Hp) (h : RdL H x (vs.map (LV.flt .f32))) (h1 : RdL H y (gs.map (LV.int .i64))) (h2 : RdL H z (ss.map (LV.int .i64)))
    (l1 : gs.length = vs.length) (l2 : ss.length = vs.length) (hn : vs.length ≤ 1048576) (bg : ∀ x ∈ gs, -1000000000000 ≤ x ∧ x ≤ 1000000000000) (bs : ∀ x ∈ ss, -1000000000000 ≤ x ∧ x ≤ 1000000000000) :
    FunH Try.prog 157 [.agg [.int .i64 n, .int .i64 c, x, y, z], .int .i64 (k : Nat)] H fun r' H' => r' = .int .i64 (exI gs ss k) ∧ H' = H := by
  unfold exI
  by_cases hk : k < gs.length
  · have b1 := bg _ (ix_mem gs k hk)
    have b2 := bs _ (ix_mem ss k (by omega))
    rw [if_pos hk]
    (refine FunH_body tyOk Try.func157 rfl (by kernel_rfl) Try.ntmps157 (fun hcl hbd => ?_); simp only [List.length_cons, List.length_nil, Nat.reduceAdd, Nat.reduceSub, List.replicate, List.cons_append, List.nil_append])
    repeat' (first
      | ((with_reducible refine hK _ _ ?_); clear hK K)
      | ((with_reducible refine hK _ ?_); clear hK K; try simp only [])
      | ((first | (with_reducible show AOp _ _ _ _ _ _ _) | (with_reducible show AQOp _ _ _ _ _ _ _)); simp (disch := first | ((with_reducible show liveO _ _ _ = true); first | assumption | (exact liveO_setS (by assumption)) | (exact PtL.live (by assumption)) | (exact PtL.liveA (by assumption) _) | (simp only [go_sem]; done)) | omega | assumption | rfl | (simp only [go_sem]; first | done | omega)) only [go_sem, reduceIte, reduceCtorEq, Nat.reduceAdd, Nat.reduceMul, Nat.reduceSub, Nat.reduceLeDiff, Nat.lt_irrefl, Nat.reduceLT, Nat.reduceEqDiff, Nat.reduceBEq, Int.reduceLE, Int.reduceLT, Int.reduceToNat, w64, eq_self, h.isCell, h1.isCell, h2.isCell, h.lenm, h1.lenm, h2.lenm, h1.idxmA, h1.ldmA, h2.idxmA, h2.ldmA])
      | (with_reducible refine AW_seq (fun K hK => ?_))
      | (with_reducible refine AW_region tyOk ?_)
      | ((with_reducible refine AW_quiet (id := 3) tyOk ?_ ?_ ?_); (kernel_rfl); (kernel_rfl))
      | (with_reducible refine AOps_cons (fun K hK => ?_))
      | (with_reducible refine AQOps_cons (fun K hK => ?_))
      | ((with_reducible refine AQOps_nil ?_); try simp only [thenA, blockA, if_true, if_false, reduceIte, Nat.reduceEqDiff, reduceCtorEq])
      | ((with_reducible refine AOps_nil ?_); try simp only [thenA, blockA, if_true, if_false, reduceIte, Nat.reduceEqDiff, reduceCtorEq])
      | (with_reducible refine AW_block ?_)
      | ((first | (with_reducible refine AW_ret ?_) | (with_reducible refine AW_skip ?_) | (with_reducible refine AW_exit ?_)); try simp only [thenA, blockA, if_true, if_false, reduceIte, Nat.reduceEqDiff, reduceCtorEq])
      | ((with_reducible show AW _ _ (.cond _ _ _) _ _ _); refine AW_cond rfl (fun hg => ?_) (fun hg => ?_) <;> first | (exfalso; simp only [reduceCtorEq] at hg; done) | ((try simp only [Bool.not_eq_true', Bool.not_eq_false', decide_eq_true_eq, decide_eq_false_iff_not] at hg); try (exfalso; omega)))
      | ((with_reducible show _ ∧ _); refine And.intro (fun hg => ?_) (fun hg => ?_) <;> (try simp only [Bool.not_eq_true', Bool.not_eq_false'] at hg) <;> simp only [hg] <;> (try simp only [decide_eq_true_eq, decide_eq_false_iff_not] at hg) <;> (try (exfalso; omega)))
      | (clear hK K)
      | fail)
    all_goals (refine EndA_cut hcl (by first | exact Or.inr rfl | exact Or.inl rfl) (by simp only [Try.results157, resA, aresL, go_sem, reduceIte, reduceCtorEq, Nat.reduceAdd, Nat.reduceMul, Nat.reduceSub, Nat.reduceLeDiff, Nat.lt_irrefl, Nat.reduceLT, Nat.reduceEqDiff, Nat.reduceBEq, Int.reduceLE, Int.reduceLT, Int.reduceToNat, w64, eq_self] <;> rfl) rfl ?_)
    all_goals exact ⟨rfl, rfl⟩
  · rw [if_neg hk]
    (refine FunH_body tyOk Try.func157 rfl (by kernel_rfl) Try.ntmps157 (fun hcl hbd => ?_); simp only [List.length_cons, List.length_nil, Nat.reduceAdd, Nat.reduceSub, List.replicate, List.cons_append, List.nil_append])
    repeat' (first
      | ((with_reducible refine hK _ _ ?_); clear hK K)
      | ((with_reducible refine hK _ ?_); clear hK K; try simp only [])
      | ((first | (with_reducible show AOp _ _ _ _ _ _ _) | (with_reducible show AQOp _ _ _ _ _ _ _)); simp (disch := first | ((with_reducible show liveO _ _ _ = true); first | assumption | (exact liveO_setS (by assumption)) | (exact PtL.live (by assumption)) | (exact PtL.liveA (by assumption) _) | (simp only [go_sem]; done)) | omega | assumption | rfl | (simp only [go_sem]; first | done | omega)) only [go_sem, reduceIte, reduceCtorEq, Nat.reduceAdd, Nat.reduceMul, Nat.reduceSub, Nat.reduceLeDiff, Nat.lt_irrefl, Nat.reduceLT, Nat.reduceEqDiff, Nat.reduceBEq, Int.reduceLE, Int.reduceLT, Int.reduceToNat, w64, eq_self, h.isCell, h1.isCell, h2.isCell, h.lenm, h1.lenm, h2.lenm])
      | (with_reducible refine AW_seq (fun K hK => ?_))
      | (with_reducible refine AW_region tyOk ?_)
      | ((with_reducible refine AW_quiet (id := 3) tyOk ?_ ?_ ?_); (kernel_rfl); (kernel_rfl))
      | (with_reducible refine AOps_cons (fun K hK => ?_))
      | (with_reducible refine AQOps_cons (fun K hK => ?_))
      | ((with_reducible refine AQOps_nil ?_); try simp only [thenA, blockA, if_true, if_false, reduceIte, Nat.reduceEqDiff, reduceCtorEq])
      | ((with_reducible refine AOps_nil ?_); try simp only [thenA, blockA, if_true, if_false, reduceIte, Nat.reduceEqDiff, reduceCtorEq])
      | (with_reducible refine AW_block ?_)
      | ((first | (with_reducible refine AW_ret ?_) | (with_reducible refine AW_skip ?_) | (with_reducible refine AW_exit ?_)); try simp only [thenA, blockA, if_true, if_false, reduceIte, Nat.reduceEqDiff, reduceCtorEq])
      | ((with_reducible show AW _ _ (.cond _ _ _) _ _ _); refine AW_cond rfl (fun hg => ?_) (fun hg => ?_) <;> first | (exfalso; simp only [reduceCtorEq] at hg; done) | ((try simp only [Bool.not_eq_true', Bool.not_eq_false', decide_eq_true_eq, decide_eq_false_iff_not] at hg); try (exfalso; omega)))
      | ((with_reducible show _ ∧ _); refine And.intro (fun hg => ?_) (fun hg => ?_) <;> (try simp only [Bool.not_eq_true', Bool.not_eq_false'] at hg) <;> simp only [hg] <;> (try simp only [decide_eq_true_eq, decide_eq_false_iff_not] at hg) <;> (try (exfalso; omega)))
      | (clear hK K)
      | fail)
    all_goals (first | refine EndA_cut hcl (by first | exact Or.inr rfl | exact Or.inl rfl) (by simp only [Try.results157, resA, aresL, go_sem, reduceIte, reduceCtorEq, Nat.reduceAdd, Nat.reduceMul, Nat.reduceSub, Nat.reduceLeDiff, Nat.lt_irrefl, Nat.reduceLT, Nat.reduceEqDiff, Nat.reduceBEq, Int.reduceLE, Int.reduceLT, Int.reduceToNat, w64, eq_self] <;> rfl) rfl ?_ | refine EndA_same (by first | exact Or.inr rfl | exact Or.inl rfl) (by simp only [Try.results157, resA, aresL, go_sem, reduceIte, reduceCtorEq, Nat.reduceAdd, Nat.reduceMul, Nat.reduceSub, Nat.reduceLeDiff, Nat.lt_irrefl, Nat.reduceLT, Nat.reduceEqDiff, Nat.reduceBEq, Int.reduceLE, Int.reduceLT, Int.reduceToNat, w64, eq_self] <;> rfl) ?_)
    all_goals exact ⟨rfl, rfl⟩
set_option maxHeartbeats 4000000 in
theorem merge1_c (n1 c1 n2 c2 n cnt : Int) (x y z x2 y2 z2 : LV) (vs vs2 : List (Option Nat)) (gs ss gs2 ss2 : List Int) (i k va vb vc : Nat) (X : List Tp) (o1 o2 o3 : AO) (H0 Gb : Hp)
    (h : RdL H0 x (vs.map (LV.flt .f32))) (h1 : RdL H0 y (gs.map (LV.int .i64))) (h2 : RdL H0 z (ss.map (LV.int .i64))) (h' : RdL H0 x2 (vs2.map (LV.flt .f32))) (h1' : RdL H0 y2 (gs2.map (LV.int .i64))) (h2' : RdL H0 z2 (ss2.map (LV.int .i64)))
    (l1 : gs.length = vs.length) (l2 : ss.length = vs.length) (l1' : gs2.length = vs2.length) (l2' : ss2.length = vs2.length) (hn : vs.length ≤ 1048576) (hn2 : vs2.length ≤ 1048576) (hX : X.length ≤ 1048576) (hi : i < vs.length)
    (bg : ∀ x ∈ gs, 0 ≤ x ∧ x ≤ 1000000) (bs : ∀ x ∈ ss, 0 ≤ x ∧ x ≤ 1000000) (bg2 : ∀ x ∈ gs2, -1000000000000 ≤ x ∧ x ≤ 1000000000000) (bs2 : ∀ x ∈ ss2, -1000000000000 ≤ x ∧ x ≤ 1000000000000) (bex : -1000000 ≤ exI gs2 ss2 k ∧ exI gs2 ss2 k ≤ 3000000) :
    FunH Try.prog 156 [.agg [.int .i64 n1, .int .i64 c1, x, y, z], .agg [.int .i64 n2, .int .i64 c2, x2, y2, z2], .int .i64 (i : Nat), .int .i64 (k : Nat), .ptr (H0.length + 3) 0 0]
      (H0 ++ (o1 :: o2 :: o3 :: ⟨0, false, 27, 5, [.int .i64 n, .int .i64 cnt, .sl (H0.length + 4) va 0 X.length none, .sl (H0.length + 5) vb 0 X.length none, .sl (H0.length + 6) vc 0 X.length none]⟩ :: ⟨va, false, 37, 1, (X.map tv).map (LV.flt .f32)⟩ :: ⟨vb, false, 2, 1, (X.map tg).map (LV.int .i64)⟩ :: ⟨vc, false, 2, 1, (X.map ts).map (LV.int .i64)⟩ :: Gb))
      fun r H' => r = .tup [] ∧ H' = H0 ++ (o1 :: o2 :: o3 :: ⟨0, false, 27, 5, [.int .i64 n, .int .i64 cnt, .sl (H0.length + 4) (va + 1) 0 (X.length + 1) none, .sl (H0.length + 5) (vb + 1) 0 (X.length + 1) none, .sl (H0.length + 6) (vc + 1) 0 (X.length + 1) none]⟩ ::
        ⟨va + 1, false, 37, 1, ((X ++ [((ix vs i, ix gs i, ix ss i + exI gs2 ss2 k) : Tp)]).map tv).map (LV.flt .f32)⟩ :: ⟨vb + 1, false, 2, 1, ((X ++ [((ix vs i, ix gs i, ix ss i + exI gs2 ss2 k) : Tp)]).map tg).map (LV.int .i64)⟩ :: ⟨vc + 1, false, 2, 1, ((X ++ [((ix vs i, ix gs i, ix ss i + exI gs2 ss2 k) : Tp)]).map ts).map (LV.int .i64)⟩ :: Gb) := by
  have q1 := bg _ (ix_mem gs i (by omega))
  have q2 := bs _ (ix_mem ss i (by omega))
  have t1 := all_flt .f32 (X.map tv)
  have t2 := all_int .i64 (X.map tg)
  have t3 := all_int .i64 (X.map ts)
  have t4 : (X.map tv).length = X.length := List.length_map _
  have t5 : (X.map tg).length = X.length := List.length_map _
  have t6 : (X.map ts).length = X.length := List.length_map _
  obtain ⟨g, hg0⟩ : ∃ g, Gb.length = g := ⟨_, rfl⟩
  (refine FunH_body tyOk Try.func156 rfl (by kernel_rfl) Try.ntmps156 (fun hcl hbd => ?_); simp only [List.length_cons, List.length_nil, Nat.reduceAdd, Nat.reduceSub, List.replicate, List.cons_append, List.nil_append])
  repeat' (first
    | ((with_reducible refine hK _ _ ?_); clear hK K)
    | ((with_reducible refine hK _ ?_); clear hK K; try simp only [])
    | ((with_reducible refine hK _ _ ?_ ?_); (first | exact Or.inl rfl | exact Or.inr (by (first | exact ⟨_, rfl⟩ | exact ⟨_, by rw [List.append_assoc]; rfl⟩ | exact ⟨_, by simp only [List.append_assoc, List.cons_append, List.nil_append]; rfl⟩ | exact ⟨_, by rw [hp_setj, List.append_assoc]; rfl⟩ | exact ⟨_, hp_setj _ _ _ _⟩ | exact ⟨[], (List.append_nil _).symm⟩))); clear hK K)
    | ((first | (with_reducible show AOp _ _ _ _ _ _ _) | (with_reducible show AQOp _ _ _ _ _ _ _)); simp (disch := first | ((with_reducible show liveO _ _ _ = true); first | assumption | (exact liveO_setS (by assumption)) | (exact PtL.live (by assumption)) | (exact PtL.liveA (by assumption) _) | (simp only [go_sem]; done)) | omega | assumption | rfl | (simp only [go_sem]; first | done | omega)) only [go_sem, reduceIte, reduceCtorEq, Nat.reduceAdd, Nat.reduceMul, Nat.reduceSub, Nat.reduceLeDiff, Nat.lt_irrefl, Nat.reduceLT, Nat.reduceEqDiff, Nat.reduceBEq, Int.reduceLE, Int.reduceLT, Int.reduceToNat, w64, eq_self, h.isCell, h1.isCell, h2.isCell, h'.isCell, h1'.isCell, h2'.isCell, h.lenm, h1.lenm, h2.lenm, h.idxmA, h.ldmA, h1.idxmA, h1.ldmA, h2.idxmA, h2.ldmA, t1, t2, t3, t4, t5, t6])
    | (with_reducible refine AW_seq (fun K hK => ?_))
    | (with_reducible refine AW_region tyOk ?_)
    | ((with_reducible apply AW_treeZ (id := 1) tyOk 11 [8, 9, 10]); (kernel_rfl); (exact rfl))
    | ((with_reducible apply AW_treeZ (id := 2) tyOk 11 [8, 9, 10]); (kernel_rfl); (exact rfl))
    | ((with_reducible apply AW_treeZ (id := 3) tyOk 15 [12, 13, 14]); (kernel_rfl); (exact rfl))
    | ((with_reducible refine AAnyZ_leaf (by decide +kernel) ?_); (with_reducible exact Wk.refl))
    | (with_reducible refine AAnyZ_quiet 0 rfl rfl (by decide +kernel) (by decide +kernel) (by decide +kernel) (by decide +kernel) (by (first | exact ⟨_, rfl⟩ | exact ⟨_, by rw [List.append_assoc]; rfl⟩ | exact ⟨_, by simp only [List.append_assoc, List.cons_append, List.nil_append]; rfl⟩ | exact ⟨_, by rw [hp_setj, List.append_assoc]; rfl⟩ | exact ⟨_, hp_setj _ _ _ _⟩ | exact ⟨[], (List.append_nil _).symm⟩)) (fun K hK => ?_))
    | (with_reducible refine AAnyZ_quiet 1 rfl rfl (by decide +kernel) (by decide +kernel) (by decide +kernel) (by decide +kernel) (by (first | exact ⟨_, rfl⟩ | exact ⟨_, by rw [List.append_assoc]; rfl⟩ | exact ⟨_, by simp only [List.append_assoc, List.cons_append, List.nil_append]; rfl⟩ | exact ⟨_, by rw [hp_setj, List.append_assoc]; rfl⟩ | exact ⟨_, hp_setj _ _ _ _⟩ | exact ⟨[], (List.append_nil _).symm⟩)) (fun K hK => ?_))
    | (with_reducible refine AAnyZ_quiet 2 rfl rfl (by decide +kernel) (by decide +kernel) (by decide +kernel) (by decide +kernel) (by (first | exact ⟨_, rfl⟩ | exact ⟨_, by rw [List.append_assoc]; rfl⟩ | exact ⟨_, by simp only [List.append_assoc, List.cons_append, List.nil_append]; rfl⟩ | exact ⟨_, by rw [hp_setj, List.append_assoc]; rfl⟩ | exact ⟨_, hp_setj _ _ _ _⟩ | exact ⟨[], (List.append_nil _).symm⟩)) (fun K hK => ?_))
    | (with_reducible refine AAnyZ_quiet 3 rfl rfl (by decide +kernel) (by decide +kernel) (by decide +kernel) (by decide +kernel) (by (first | exact ⟨_, rfl⟩ | exact ⟨_, by rw [List.append_assoc]; rfl⟩ | exact ⟨_, by simp only [List.append_assoc, List.cons_append, List.nil_append]; rfl⟩ | exact ⟨_, by rw [hp_setj, List.append_assoc]; rfl⟩ | exact ⟨_, hp_setj _ _ _ _⟩ | exact ⟨[], (List.append_nil _).symm⟩)) (fun K hK => ?_))
    | (with_reducible refine AAnyZ_quiet 4 rfl rfl (by decide +kernel) (by decide +kernel) (by decide +kernel) (by decide +kernel) (by (first | exact ⟨_, rfl⟩ | exact ⟨_, by rw [List.append_assoc]; rfl⟩ | exact ⟨_, by simp only [List.append_assoc, List.cons_append, List.nil_append]; rfl⟩ | exact ⟨_, by rw [hp_setj, List.append_assoc]; rfl⟩ | exact ⟨_, hp_setj _ _ _ _⟩ | exact ⟨[], (List.append_nil _).symm⟩)) (fun K hK => ?_))
    | (with_reducible refine AAnyZ_quiet 5 rfl rfl (by decide +kernel) (by decide +kernel) (by decide +kernel) (by decide +kernel) (by (first | exact ⟨_, rfl⟩ | exact ⟨_, by rw [List.append_assoc]; rfl⟩ | exact ⟨_, by simp only [List.append_assoc, List.cons_append, List.nil_append]; rfl⟩ | exact ⟨_, by rw [hp_setj, List.append_assoc]; rfl⟩ | exact ⟨_, hp_setj _ _ _ _⟩ | exact ⟨[], (List.append_nil _).symm⟩)) (fun K hK => ?_))
    | (with_reducible refine AAnyZ_quiet 6 rfl rfl (by decide +kernel) (by decide +kernel) (by decide +kernel) (by decide +kernel) (by (first | exact ⟨_, rfl⟩ | exact ⟨_, by rw [List.append_assoc]; rfl⟩ | exact ⟨_, by simp only [List.append_assoc, List.cons_append, List.nil_append]; rfl⟩ | exact ⟨_, by rw [hp_setj, List.append_assoc]; rfl⟩ | exact ⟨_, hp_setj _ _ _ _⟩ | exact ⟨[], (List.append_nil _).symm⟩)) (fun K hK => ?_))
    | (with_reducible refine AAnyZ_step 7 [] (by decide +kernel) ?_)
    | (with_reducible refine AAnyZ_step 8 [] (by decide +kernel) ?_)
    | (with_reducible refine AAnyZ_step 9 [] (by decide +kernel) ?_)
    | (with_reducible refine AAnyZ_step 10 [] (by decide +kernel) ?_)
    | (with_reducible refine AAnyZ_quiet 0 rfl rfl (by decide +kernel) (by decide +kernel) (by decide +kernel) (by decide +kernel) (by (first | exact ⟨_, rfl⟩ | exact ⟨_, by rw [List.append_assoc]; rfl⟩ | exact ⟨_, by simp only [List.append_assoc, List.cons_append, List.nil_append]; rfl⟩ | exact ⟨_, by rw [hp_setj, List.append_assoc]; rfl⟩ | exact ⟨_, hp_setj _ _ _ _⟩ | exact ⟨[], (List.append_nil _).symm⟩)) (fun K hK => ?_))
    | (with_reducible refine AAnyZ_quiet 1 rfl rfl (by decide +kernel) (by decide +kernel) (by decide +kernel) (by decide +kernel) (by (first | exact ⟨_, rfl⟩ | exact ⟨_, by rw [List.append_assoc]; rfl⟩ | exact ⟨_, by simp only [List.append_assoc, List.cons_append, List.nil_append]; rfl⟩ | exact ⟨_, by rw [hp_setj, List.append_assoc]; rfl⟩ | exact ⟨_, hp_setj _ _ _ _⟩ | exact ⟨[], (List.append_nil _).symm⟩)) (fun K hK => ?_))
    | (with_reducible refine AAnyZ_quiet 2 rfl rfl (by decide +kernel) (by decide +kernel) (by decide +kernel) (by decide +kernel) (by (first | exact ⟨_, rfl⟩ | exact ⟨_, by rw [List.append_assoc]; rfl⟩ | exact ⟨_, by simp only [List.append_assoc, List.cons_append, List.nil_append]; rfl⟩ | exact ⟨_, by rw [hp_setj, List.append_assoc]; rfl⟩ | exact ⟨_, hp_setj _ _ _ _⟩ | exact ⟨[], (List.append_nil _).symm⟩)) (fun K hK => ?_))
    | (with_reducible refine AAnyZ_quiet 3 rfl rfl (by decide +kernel) (by decide +kernel) (by decide +kernel) (by decide +kernel) (by (first | exact ⟨_, rfl⟩ | exact ⟨_, by rw [List.append_assoc]; rfl⟩ | exact ⟨_, by simp only [List.append_assoc, List.cons_append, List.nil_append]; rfl⟩ | exact ⟨_, by rw [hp_setj, List.append_assoc]; rfl⟩ | exact ⟨_, hp_setj _ _ _ _⟩ | exact ⟨[], (List.append_nil _).symm⟩)) (fun K hK => ?_))
    | (with_reducible refine AAnyZ_quiet 4 rfl rfl (by decide +kernel) (by decide +kernel) (by decide +kernel) (by decide +kernel) (by (first | exact ⟨_, rfl⟩ | exact ⟨_, by rw [List.append_assoc]; rfl⟩ | exact ⟨_, by simp only [List.append_assoc, List.cons_append, List.nil_append]; rfl⟩ | exact ⟨_, by rw [hp_setj, List.append_assoc]; rfl⟩ | exact ⟨_, hp_setj _ _ _ _⟩ | exact ⟨[], (List.append_nil _).symm⟩)) (fun K hK => ?_))
    | (with_reducible refine AAnyZ_quiet 5 rfl rfl (by decide +kernel) (by decide +kernel) (by decide +kernel) (by decide +kernel) (by (first | exact ⟨_, rfl⟩ | exact ⟨_, by rw [List.append_assoc]; rfl⟩ | exact ⟨_, by simp only [List.append_assoc, List.cons_append, List.nil_append]; rfl⟩ | exact ⟨_, by rw [hp_setj, List.append_assoc]; rfl⟩ | exact ⟨_, hp_setj _ _ _ _⟩ | exact ⟨[], (List.append_nil _).symm⟩)) (fun K hK => ?_))
    | (with_reducible refine AAnyZ_quiet 6 rfl rfl (by decide +kernel) (by decide +kernel) (by decide +kernel) (by decide +kernel) (by (first | exact ⟨_, rfl⟩ | exact ⟨_, by rw [List.append_assoc]; rfl⟩ | exact ⟨_, by simp only [List.append_assoc, List.cons_append, List.nil_append]; rfl⟩ | exact ⟨_, by rw [hp_setj, List.append_assoc]; rfl⟩ | exact ⟨_, hp_setj _ _ _ _⟩ | exact ⟨[], (List.append_nil _).symm⟩)) (fun K hK => ?_))
    | (with_reducible refine AAnyZ_step 7 [] (by decide +kernel) ?_)
    | (with_reducible refine AAnyZ_step 8 [] (by decide +kernel) ?_)
    | (with_reducible refine AAnyZ_step 9 [] (by decide +kernel) ?_)
    | (with_reducible refine AAnyZ_step 10 [] (by decide +kernel) ?_)
    | (with_reducible refine AAnyZ_quiet 0 rfl rfl (by decide +kernel) (by decide +kernel) (by decide +kernel) (by decide +kernel) (by (first | exact ⟨_, rfl⟩ | exact ⟨_, by rw [List.append_assoc]; rfl⟩ | exact ⟨_, by simp only [List.append_assoc, List.cons_append, List.nil_append]; rfl⟩ | exact ⟨_, by rw [hp_setj, List.append_assoc]; rfl⟩ | exact ⟨_, hp_setj _ _ _ _⟩ | exact ⟨[], (List.append_nil _).symm⟩)) (fun K hK => ?_))
    | (with_reducible refine AAnyZ_quiet 1 rfl rfl (by decide +kernel) (by decide +kernel) (by decide +kernel) (by decide +kernel) (by (first | exact ⟨_, rfl⟩ | exact ⟨_, by rw [List.append_assoc]; rfl⟩ | exact ⟨_, by simp only [List.append_assoc, List.cons_append, List.nil_append]; rfl⟩ | exact ⟨_, by rw [hp_setj, List.append_assoc]; rfl⟩ | exact ⟨_, hp_setj _ _ _ _⟩ | exact ⟨[], (List.append_nil _).symm⟩)) (fun K hK => ?_))
    | (with_reducible refine AAnyZ_quiet 2 rfl rfl (by decide +kernel) (by decide +kernel) (by decide +kernel) (by decide +kernel) (by (first | exact ⟨_, rfl⟩ | exact ⟨_, by rw [List.append_assoc]; rfl⟩ | exact ⟨_, by simp only [List.append_assoc, List.cons_append, List.nil_append]; rfl⟩ | exact ⟨_, by rw [hp_setj, List.append_assoc]; rfl⟩ | exact ⟨_, hp_setj _ _ _ _⟩ | exact ⟨[], (List.append_nil _).symm⟩)) (fun K hK => ?_))
    | (with_reducible refine AAnyZ_quiet 3 rfl rfl (by decide +kernel) (by decide +kernel) (by decide +kernel) (by decide +kernel) (by (first | exact ⟨_, rfl⟩ | exact ⟨_, by rw [List.append_assoc]; rfl⟩ | exact ⟨_, by simp only [List.append_assoc, List.cons_append, List.nil_append]; rfl⟩ | exact ⟨_, by rw [hp_setj, List.append_assoc]; rfl⟩ | exact ⟨_, hp_setj _ _ _ _⟩ | exact ⟨[], (List.append_nil _).symm⟩)) (fun K hK => ?_))
    | (with_reducible refine AAnyZ_quiet 4 rfl rfl (by decide +kernel) (by decide +kernel) (by decide +kernel) (by decide +kernel) (by (first | exact ⟨_, rfl⟩ | exact ⟨_, by rw [List.append_assoc]; rfl⟩ | exact ⟨_, by simp only [List.append_assoc, List.cons_append, List.nil_append]; rfl⟩ | exact ⟨_, by rw [hp_setj, List.append_assoc]; rfl⟩ | exact ⟨_, hp_setj _ _ _ _⟩ | exact ⟨[], (List.append_nil _).symm⟩)) (fun K hK => ?_))
    | (with_reducible refine AAnyZ_quiet 5 rfl rfl (by decide +kernel) (by decide +kernel) (by decide +kernel) (by decide +kernel) (by (first | exact ⟨_, rfl⟩ | exact ⟨_, by rw [List.append_assoc]; rfl⟩ | exact ⟨_, by simp only [List.append_assoc, List.cons_append, List.nil_append]; rfl⟩ | exact ⟨_, by rw [hp_setj, List.append_assoc]; rfl⟩ | exact ⟨_, hp_setj _ _ _ _⟩ | exact ⟨[], (List.append_nil _).symm⟩)) (fun K hK => ?_))
    | (with_reducible refine AAnyZ_quiet 6 rfl rfl (by decide +kernel) (by decide +kernel) (by decide +kernel) (by decide +kernel) (by (first | exact ⟨_, rfl⟩ | exact ⟨_, by rw [List.append_assoc]; rfl⟩ | exact ⟨_, by simp only [List.append_assoc, List.cons_append, List.nil_append]; rfl⟩ | exact ⟨_, by rw [hp_setj, List.append_assoc]; rfl⟩ | exact ⟨_, hp_setj _ _ _ _⟩ | exact ⟨[], (List.append_nil _).symm⟩)) (fun K hK => ?_))
    | (with_reducible refine AAnyZ_quiet 7 rfl rfl (by decide +kernel) (by decide +kernel) (by decide +kernel) (by decide +kernel) (by (first | exact ⟨_, rfl⟩ | exact ⟨_, by rw [List.append_assoc]; rfl⟩ | exact ⟨_, by simp only [List.append_assoc, List.cons_append, List.nil_append]; rfl⟩ | exact ⟨_, by rw [hp_setj, List.append_assoc]; rfl⟩ | exact ⟨_, hp_setj _ _ _ _⟩ | exact ⟨[], (List.append_nil _).symm⟩)) (fun K hK => ?_))
    | (with_reducible refine AAnyZ_quiet 8 rfl rfl (by decide +kernel) (by decide +kernel) (by decide +kernel) (by decide +kernel) (by (first | exact ⟨_, rfl⟩ | exact ⟨_, by rw [List.append_assoc]; rfl⟩ | exact ⟨_, by simp only [List.append_assoc, List.cons_append, List.nil_append]; rfl⟩ | exact ⟨_, by rw [hp_setj, List.append_assoc]; rfl⟩ | exact ⟨_, hp_setj _ _ _ _⟩ | exact ⟨[], (List.append_nil _).symm⟩)) (fun K hK => ?_))
    | (with_reducible refine AAnyZ_quiet 10 rfl rfl (by decide +kernel) (by decide +kernel) (by decide +kernel) (by decide +kernel) (by (first | exact ⟨_, rfl⟩ | exact ⟨_, by rw [List.append_assoc]; rfl⟩ | exact ⟨_, by simp only [List.append_assoc, List.cons_append, List.nil_append]; rfl⟩ | exact ⟨_, by rw [hp_setj, List.append_assoc]; rfl⟩ | exact ⟨_, hp_setj _ _ _ _⟩ | exact ⟨[], (List.append_nil _).symm⟩)) (fun K hK => ?_))
    | (with_reducible refine AAnyZ_step 9 [] (by decide +kernel) ?_)
    | (with_reducible refine AAnyZ_step 11 [] (by decide +kernel) ?_)
    | (with_reducible refine AAnyZ_step 12 [] (by decide +kernel) ?_)
    | (with_reducible refine AAnyZ_step 13 [] (by decide +kernel) ?_)
    | (with_reducible refine AAnyZ_step 14 [] (by decide +kernel) ?_)
    | (with_reducible refine AAllZ_cons rfl (fun K hK => ?_) ?_)
    | (with_reducible exact AAllZ_nil)
    | ((with_reducible show thenA _ _ _ _ _); simp only [thenA, blockA, if_true, if_false, reduceIte])
    | ((with_reducible show blockA _ _ _ _ _); simp only [thenA, blockA, if_true, if_false, reduceIte, Nat.reduceEqDiff, reduceCtorEq])
    | (with_reducible refine AOps_cons (fun K hK => ?_))
    | (with_reducible refine AQOps_cons (fun K hK => ?_))
    | ((with_reducible refine AQOps_nil ?_); try simp only [thenA, blockA, if_true, if_false, reduceIte, Nat.reduceEqDiff, reduceCtorEq])
    | ((with_reducible refine AOps_nil ?_); try simp only [thenA, blockA, if_true, if_false, reduceIte, Nat.reduceEqDiff, reduceCtorEq])
    | (with_reducible refine AW_block ?_)
    | ((first | (with_reducible refine AW_ret ?_) | (with_reducible refine AW_skip ?_) | (with_reducible refine AW_exit ?_)); try simp only [thenA, blockA, if_true, if_false, reduceIte, Nat.reduceEqDiff, reduceCtorEq])
    | ((with_reducible show AW _ _ (.cond _ _ _) _ _ _); refine AW_cond rfl (fun hg => ?_) (fun hg => ?_) <;> first | (exfalso; simp only [reduceCtorEq] at hg; done) | ((try simp only [Bool.not_eq_true', Bool.not_eq_false', decide_eq_true_eq, decide_eq_false_iff_not] at hg); try (exfalso; omega)))
    | ((with_reducible show _ ∧ _); refine And.intro (fun hg => ?_) (fun hg => ?_) <;> (try simp only [Bool.not_eq_true', Bool.not_eq_false'] at hg) <;> simp only [hg] <;> (try simp only [decide_eq_true_eq, decide_eq_false_iff_not] at hg) <;> (try (exfalso; omega)))
    | ((first | (with_reducible apply FunH_intro) | (with_reducible apply AQ_intro)); (first | exact extra_c _ _ _ _ _ _ _ _ _ _ (by first | assumption | exact RdL.app (by assumption) _ | exact RdL_hj rfl (by simp) | exact RdL_h0 rfl (by simp) | exact RdL_nil | exact RdL_emp) (by first | assumption | exact RdL.app (by assumption) _ | exact RdL_hj rfl (by simp) | exact RdL_h0 rfl (by simp) | exact RdL_nil | exact RdL_emp) (by first | assumption | exact RdL.app (by assumption) _ | exact RdL_hj rfl (by simp) | exact RdL_h0 rfl (by simp) | exact RdL_nil | exact RdL_emp) (by first | rfl | assumption | omega | (simp; done)) (by first | rfl | assumption | omega | (simp; done)) (by first | assumption | omega | (simp; omega) | (simp; done)) (by first | assumption | (simp; done)) (by first | assumption | (simp; done))))
    | (clear hK K)
    | fail)
  obtain ⟨u, hu⟩ : ∃ u : Tp, (ix vs i, ix gs i, ix ss i + exI gs2 ss2 k) = u := ⟨_, rfl⟩
  rw [hu]
  have e1 : (X ++ [u]).map tv = X.map tv ++ [ix vs i] := by rw [← hu]; simp [tv]
  have e2 : (X ++ [u]).map tg = X.map tg ++ [ix gs i] := by rw [← hu]; simp [tg]
  have e3 : (X ++ [u]).map ts = X.map ts ++ [ix ss i + exI gs2 ss2 k] := by rw [← hu]; simp [ts]
  rw [e1, e2, e3, List.map_append, List.map_append, List.map_append]
  have hC := (((hcl.setB (H0.length + 3) ⟨0, false, 27, 5, [.int .i64 n, .int .i64 cnt, .sl (H0.length + 4) (va + 1) 0 (X.length + 1) none, .sl (H0.length + 5) (vb + 1) 0 (X.length + 1) none, .sl (H0.length + 6) (vc + 1) 0 (X.length + 1) none]⟩ (by
    intro c hc
    simp only [List.mem_cons, List.not_mem_nil, or_false] at hc
    rcases hc with rfl | rfl | rfl | rfl | rfl <;> simp [bnd])).setScal (H0.length + 4) ⟨va + 1, false, 37, 1, (X.map tv ++ [ix vs i]).map (LV.flt .f32)⟩ (flt_bndX _ _)).setScal (H0.length + 5) ⟨vb + 1, false, 2, 1, (X.map tg ++ [ix gs i]).map (LV.int .i64)⟩ (int_bndX _ _)).setScal (H0.length + 6) ⟨vc + 1, false, 2, 1, (X.map ts ++ [ix ss i + exI gs2 ss2 k]).map (LV.int .i64)⟩ (int_bndX _ _)
  simp only [hp_setj, List.set_cons_succ, List.set_cons_zero, List.map_append] at hC
  refine EndA_cutM hC (by simp) (by first | exact Or.inr rfl | exact Or.inl rfl) (by simp only [Try.results156, resA, aresL, go_sem] <;> rfl) rfl ⟨rfl, rfl⟩
end Go.Proofs.Ytkkcfbpgcekmjaa
