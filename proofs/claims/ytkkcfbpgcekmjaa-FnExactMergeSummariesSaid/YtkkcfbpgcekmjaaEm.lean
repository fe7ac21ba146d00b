/- Two summaries merged, in the abstract machine: both sides. -/
import Derived.Test.YtkkcfbpgcekmjaaEl
namespace Go.Proofs.Ytkkcfbpgcekmjaa
open Go.RowKit
set_option linter.unusedSimpArgs false
set_option linter.unusedVariables false
set_option maxRecDepth 100000

theorem Wk.dropG {He H G L : Hp} {tm tm' : List LV} (hl : He.length ≤ (H ++ L).length) (hc : Closed (H ++ L)) (hj : JL (tm.map (renT (keepσ (H ++ L).length []))) tm') : Wk He tm (H ++ (L ++ G)) tm' (H ++ L) := by
  have h := Wk.keep (He := He) (H1 := H ++ L) (K := G) (tm := tm) [] hl List.nodup_nil (by intro j hj; cases hj) hc
  rw [List.map_nil, List.append_nil, List.append_assoc] at h
  exact h.trans (Wk.junk hj)
set_option maxHeartbeats 8000000 in
theorem merge_c (n c c2 : Int) (x y z x2 y2 z2 : LV) (vs vs2 : List (Option Nat)) (gs ss gs2 ss2 : List Int) (H : Hp)
    (h : RdL H x (vs.map (LV.flt .f32))) (h1 : RdL H y (gs.map (LV.int .i64))) (h2 : RdL H z (ss.map (LV.int .i64))) (h' : RdL H x2 (vs2.map (LV.flt .f32))) (h1' : RdL H y2 (gs2.map (LV.int .i64))) (h2' : RdL H z2 (ss2.map (LV.int .i64)))
    (e1 : summB n c vs gs ss = true) (e2 : summB n c2 vs2 gs2 ss2 = true) (X : List Tp) (hX : mgX vs gs ss vs2 gs2 ss2 = X) (Y : List Tp) (hY : (if sumT n (c + c2) (stT n (c + c2) X) then stT n (c + c2) X else []) = Y) (ok : Bool) (hok : sumT n (c + c2) (stT n (c + c2) X) = ok) :
    FunH Try.prog 76 [.agg [.int .i64 n, .int .i64 c, x, y, z], .agg [.int .i64 n, .int .i64 c2, x2, y2, z2]] H fun r H' =>
      r = .tup [.agg [.int .i64 (if ok then n else 0), .int .i64 (if ok then c + c2 else 0), .sl H.length 0 0 Y.length none, .sl (H.length + 1) 0 0 Y.length none, .sl (H.length + 2) 0 0 Y.length none], .bool ok] ∧
      H' = H ++ [⟨0, false, 37, 1, (Y.map tv).map (LV.flt .f32)⟩, ⟨0, false, 2, 1, (Y.map tg).map (LV.int .i64)⟩, ⟨0, false, 2, 1, (Y.map ts).map (LV.int .i64)⟩] := by
  obtain ⟨a1, a2, a3, a4, a5, a6, a7, a8, a9, a10⟩ := summB_all' e1
  obtain ⟨b1, b2, b3, b4, b5, b6, b7, b8, b9, b10⟩ := summB_all' e2
  obtain ⟨hT, hXl, hend⟩ := mgX_ok (vs := vs) (vs2 := vs2) a4 a5 b4 b5 a7 a8 a2.2 b7 b8 b2.2 a9 b9
  rw [hX] at hT hXl hend
  have bb := fun (x : Int) (hx : x ∈ gs) => a7 x hx
  have g1 : ∀ x ∈ gs, 0 ≤ x ∧ x ≤ 1000000 := fun x hx => by have := a7 x hx; omega
  have g2 : ∀ x ∈ ss, 0 ≤ x ∧ x ≤ 1000000 := fun x hx => by have := a8 x hx; omega
  have g3 : ∀ x ∈ gs, -1000000000000 ≤ x ∧ x ≤ 1000000000000 := fun x hx => by have := a7 x hx; omega
  have g4 : ∀ x ∈ ss, -1000000000000 ≤ x ∧ x ≤ 1000000000000 := fun x hx => by have := a8 x hx; omega
  have k1 : ∀ x ∈ gs2, 0 ≤ x ∧ x ≤ 1000000 := fun x hx => by have := b7 x hx; omega
  have k2 : ∀ x ∈ ss2, 0 ≤ x ∧ x ≤ 1000000 := fun x hx => by have := b8 x hx; omega
  have k3 : ∀ x ∈ gs2, -1000000000000 ≤ x ∧ x ≤ 1000000000000 := fun x hx => by have := b7 x hx; omega
  have k4 : ∀ x ∈ ss2, -1000000000000 ≤ x ∧ x ≤ 1000000000000 := fun x hx => by have := b8 x hx; omega
  have hmem := mgN_ok (vs := vs) (vs2 := vs2) a4 a5 b4 b5 a7 a8 a2.2 b7 b8 b2.2
  have hex := exI_bound (a5.trans a4.symm) a7 a8 a2.2
  have hex2 := exI_bound (b5.trans b4.symm) b7 b8 b2.2
  have hcc : c + c2 ≤ 2000000 ∧ 0 ≤ c + c2 := by omega
  clear bb
  (refine FunH_body tyOk Try.func76 rfl (by kernel_rfl) Try.ntmps76 (fun hcl hbd => ?_); simp only [List.length_cons, List.length_nil, Nat.reduceAdd, Nat.reduceSub, List.replicate, List.cons_append, List.nil_append])
  repeat' (first
    | ((with_reducible refine hK _ _ ?_); clear hK K)
    | ((with_reducible refine hK _ ?_); clear hK K; try simp only [])
    | ((first | (with_reducible show AOp _ _ _ _ _ _ _) | (with_reducible show AQOp _ _ _ _ _ _ _)); simp (disch := first | ((with_reducible show liveO _ _ _ = true); first | assumption | (exact liveO_setS (by assumption)) | (exact PtL.live (by assumption)) | (exact PtL.liveA (by assumption) _) | (simp only [go_sem]; done)) | omega | assumption | rfl | (simp only [go_sem]; first | done | omega)) only [go_sem, reduceIte, reduceCtorEq, Nat.reduceAdd, Nat.reduceMul, Nat.reduceSub, Nat.reduceLeDiff, Nat.lt_irrefl, Nat.reduceLT, Nat.reduceEqDiff, Nat.reduceBEq, Int.reduceLE, Int.reduceLT, Int.reduceToNat, w64, eq_self, h.isCell, h1.isCell, h2.isCell, h'.isCell, h1'.isCell, h2'.isCell, List.size_toArray, List.length_nil])
    | (with_reducible refine AW_seq (fun K hK => ?_))
    | (with_reducible refine AW_region tyOk ?_)
    | ((with_reducible refine AW_quiet (id := 5) tyOk ?_ ?_ ?_); (kernel_rfl); (kernel_rfl))
    | (with_reducible refine AOps_cons (fun K hK => ?_))
    | (with_reducible refine AQOps_cons (fun K hK => ?_))
    | ((with_reducible refine AQOps_nil ?_); try simp only [thenA, blockA, if_true, if_false, reduceIte, Nat.reduceEqDiff, reduceCtorEq])
    | ((with_reducible refine AOps_nil ?_); try simp only [thenA, blockA, if_true, if_false, reduceIte, Nat.reduceEqDiff, reduceCtorEq])
    | (with_reducible refine AW_block ?_)
    | ((first | (with_reducible refine AW_ret ?_) | (with_reducible refine AW_skip ?_) | (with_reducible refine AW_exit ?_)); try simp only [thenA, blockA, if_true, if_false, reduceIte, Nat.reduceEqDiff, reduceCtorEq])
    | ((with_reducible show AW _ _ (.cond _ _ _) _ _ _); refine AW_cond rfl (fun hg => ?_) (fun hg => ?_) <;> first | (exfalso; simp only [reduceCtorEq] at hg; done) | ((try simp only [Bool.not_eq_true', Bool.not_eq_false', decide_eq_true_eq, decide_eq_false_iff_not] at hg); try (exfalso; omega)))
    | ((with_reducible show _ ∧ _); refine And.intro (fun hg => ?_) (fun hg => ?_) <;> (try simp only [Bool.not_eq_true', Bool.not_eq_false'] at hg) <;> simp only [hg] <;> (try simp only [decide_eq_true_eq, decide_eq_false_iff_not] at hg) <;> (try (exfalso; omega)))
    | ((first | (with_reducible apply FunH_intro) | (with_reducible apply AQ_intro)); (first | exact merge1_c _ _ _ _ _ _ _ _ _ _ _ _ _ _ _ _ _ _ _ _ _ _ _ _ _ _ _ _ _ (by first | assumption | exact RdL.app (by assumption) _ | exact RdL_hj rfl (by simp) | exact RdL_h0 rfl (by simp) | exact RdL_nil | exact RdL_emp) (by first | assumption | exact RdL.app (by assumption) _ | exact RdL_hj rfl (by simp) | exact RdL_h0 rfl (by simp) | exact RdL_nil | exact RdL_emp) (by first | assumption | exact RdL.app (by assumption) _ | exact RdL_hj rfl (by simp) | exact RdL_h0 rfl (by simp) | exact RdL_nil | exact RdL_emp) (by first | assumption | exact RdL.app (by assumption) _ | exact RdL_hj rfl (by simp) | exact RdL_h0 rfl (by simp) | exact RdL_nil | exact RdL_emp) (by first | assumption | exact RdL.app (by assumption) _ | exact RdL_hj rfl (by simp) | exact RdL_h0 rfl (by simp) | exact RdL_nil | exact RdL_emp) (by first | assumption | exact RdL.app (by assumption) _ | exact RdL_hj rfl (by simp) | exact RdL_h0 rfl (by simp) | exact RdL_nil | exact RdL_emp) (by first | rfl | assumption | omega | (simp; done)) (by first | rfl | assumption | omega | (simp; done)) (by first | rfl | assumption | omega | (simp; done)) (by first | rfl | assumption | omega | (simp; done)) (by first | assumption | omega | (simp; omega) | (simp; done)) (by first | assumption | omega | (simp; omega) | (simp; done)) (by first | assumption | omega | (simp; omega) | (simp; done)) (by first | assumption | omega | (simp; omega) | (simp; done)) (by first | assumption | (simp; done)) (by first | assumption | (simp; done)) (by first | assumption | (simp; done)) (by first | assumption | (simp; done)) (by first | assumption | omega | (simp; omega) | (simp; done)) | exact settled_c _ _ _ _ _ _ _ _ _ _ (by first | assumption | omega | (simp; omega) | (simp; done)) (by first | assumption | omega | (simp; omega) | (simp; done)) (by first | assumption | omega | (simp; omega) | (simp; done)) (by first | assumption | omega | (simp; omega) | (simp; done)) (by first | assumption | omega | (simp; omega) | (simp; done)) (by first | assumption | omega | (simp; omega) | (simp; done)) (by first | assumption | exact (hp_getj _ _ _).trans rfl | exact (hp_get0 _ _).trans rfl) (by first | assumption | exact (hp_getj _ _ _).trans rfl | exact (hp_get0 _ _).trans rfl) (by first | assumption | exact (hp_getj _ _ _).trans rfl | exact (hp_get0 _ _).trans rfl) (by first | assumption | omega | (simp; omega) | (simp; done)) (by first | assumption | omega | (simp; omega) | (simp; done)) (by first | assumption | omega | (simp; omega) | (simp; done)) _))
    | (clear hK K)
    | fail)
  refine AW.weak (Wk.virtC (o := ⟨0, false, 27, 5, [.int .i64 n, .int .i64 (c + c2), .nils, .nils, .nils]⟩) (H.length + 3) 2 37 1 ((hp_getj _ _ _).trans rfl) rfl) ?_
  simp only [hp_setj, List.set_cons_succ, List.set_cons_zero, List.length_append, List.length_cons, List.length_nil, Nat.zero_add, Nat.reduceAdd, List.append_assoc, List.cons_append, List.nil_append]
  refine AW.weak (Wk.virtC (o := ⟨0, false, 27, 5, [.int .i64 n, .int .i64 (c + c2), .sl (H.length + 4) 0 0 0 none, .nils, .nils]⟩) (H.length + 3) 3 2 1 ((hp_getj _ _ _).trans rfl) rfl) ?_
  simp only [hp_setj, List.set_cons_succ, List.set_cons_zero, List.length_append, List.length_cons, List.length_nil, Nat.zero_add, Nat.reduceAdd, List.append_assoc, List.cons_append, List.nil_append]
  refine AW.weak (Wk.virtC (o := ⟨0, false, 27, 5, [.int .i64 n, .int .i64 (c + c2), .sl (H.length + 4) 0 0 0 none, .sl (H.length + 5) 0 0 0 none, .nils]⟩) (H.length + 3) 4 2 1 ((hp_getj _ _ _).trans rfl) rfl) ?_
  simp only [hp_setj, List.set_cons_succ, List.set_cons_zero, List.length_append, List.length_cons, List.length_nil, Nat.zero_add, Nat.reduceAdd, List.append_assoc, List.cons_append, List.nil_append]
  refine AW_loopV [8, 9, 19, 20, 21, 22, 23, 24, 25, 26, 27, 28, 29, 30, 31, 32, 33, 34, 35, 36, 37, 38, 39, 40, 41, 42, 43, 44, 45, 46, 47, 48, 49, 50, 51, 52, 53, 54, 55, 56, 57, 58, 59, 60, 61, 62, 63, 64, 65, 66, 67, 68, 69, 70, 71] (fun q : Nat × (Nat × Nat × Nat) × Hp => [(8, .int .i64 ((mgN vs gs ss vs2 gs2 ss2 q.1).1 : Nat)), (9, .int .i64 ((mgN vs gs ss vs2 gs2 ss2 q.1).2.1 : Nat))])
    (fun q => H ++ (⟨0, false, 27, 5, [.int .i64 n, .int .i64 c, x, y, z]⟩ :: ⟨0, false, 27, 5, [.int .i64 n, .int .i64 c2, x2, y2, z2]⟩ :: ⟨0, false, 27, 5, [.int .i64 0, .int .i64 0, .nils, .nils, .nils]⟩ ::
      ⟨0, false, 27, 5, [.int .i64 n, .int .i64 (c + c2), .sl (H.length + 4) q.2.1.1 0 (mgN vs gs ss vs2 gs2 ss2 q.1).2.2.length none, .sl (H.length + 5) q.2.1.2.1 0 (mgN vs gs ss vs2 gs2 ss2 q.1).2.2.length none, .sl (H.length + 6) q.2.1.2.2 0 (mgN vs gs ss vs2 gs2 ss2 q.1).2.2.length none]⟩ ::
      ⟨q.2.1.1, false, 37, 1, ((mgN vs gs ss vs2 gs2 ss2 q.1).2.2.map tv).map (LV.flt .f32)⟩ :: ⟨q.2.1.2.1, false, 2, 1, ((mgN vs gs ss vs2 gs2 ss2 q.1).2.2.map tg).map (LV.int .i64)⟩ :: ⟨q.2.1.2.2, false, 2, 1, ((mgN vs gs ss vs2 gs2 ss2 q.1).2.2.map ts).map (LV.int .i64)⟩ :: q.2.2))
    (fun q => q.1 ≤ vs.length + vs2.length) (fun q => vs.length + vs2.length - q.1) (0, (0, 0, 0), []) (Nat.zero_le _) ?_ rfl ?_
  · simp only [junkAll, setAll, List.foldl_cons, List.foldl_nil, List.set_cons_succ, List.set_cons_zero, JL, true_or, or_true, and_true, true_and, reduceCtorEq, false_or, or_false, LV.int.injEq, LV.bool.injEq, LV.flt.injEq, LV.sl.injEq, LV.ptr.injEq, eq_self, Int.natCast_add, Int.natCast_one, Int.natCast_zero, Int.ofNat_zero]; simp [mgN]
  intro ⟨t, ⟨va, vb, vc⟩, Gb⟩ ht K hK
  simp only at ht
  obtain ⟨⟨i, k, W⟩, hp⟩ : ∃ p, mgN vs gs ss vs2 gs2 ss2 t = p := ⟨_, rfl⟩
  obtain ⟨m1, m2, m3, m4, m5, m6, m7⟩ := hmem t ht i k W hp
  simp only [junkAll, setAll, List.foldl_cons, List.foldl_nil, List.set_cons_succ, List.set_cons_zero]
  simp only [hp]
  by_cases htl : t < vs.length + vs2.length
  · have hWl : W.length ≤ 1048576 := by omega
    cases hA : mgA vs vs2 i k
    · have hst : mgN vs gs ss vs2 gs2 ss2 (t + 1) = (i, k + 1, W ++ [((ix vs2 k, ix gs2 k, ix ss2 k + exI gs ss i) : Tp)]) := by simp only [mgN, hp, mgS, hA]; rfl
      unfold mgA at hA
      simp only [Bool.or_eq_false_iff, decide_eq_false_iff_not] at hA
      have hk : k < vs2.length := by omega
      have hbk : (((k : Nat) : Int) == ((vs2.length : Nat) : Int)) = false := by simp only [beq_eq_false_iff_ne, ne_eq]; omega
      have hmc := fun (o1 o2 o3 : AO) => merge1_c n c2 n c n (c + c2) x2 y2 z2 x y z vs2 vs gs2 ss2 gs ss k i va vb vc W o1 o2 o3 H Gb h' h1' h2' h h1 h2 b4 b5 a4 a5 (by omega) (by omega) hWl hk k1 k2 g3 g4 (by have := hex i; omega)
      by_cases hi : i < vs.length
      · have hf : fLe .f32 (ix vs i) (ix vs2 k) = false := by have := hA.2; simpa [hi] using this
        repeat' (first
          | ((with_reducible refine hK _ _ ?_); clear hK K)
          | ((with_reducible refine hK _ ?_); clear hK K; try simp only [])
          | ((first | (with_reducible show AOp _ _ _ _ _ _ _) | (with_reducible show AQOp _ _ _ _ _ _ _)); simp (disch := first | ((with_reducible show liveO _ _ _ = true); first | assumption | (exact liveO_setS (by assumption)) | (exact PtL.live (by assumption)) | (exact PtL.liveA (by assumption) _) | (simp only [go_sem]; done)) | omega | assumption | rfl | (simp only [go_sem]; first | done | omega)) only [go_sem, reduceIte, reduceCtorEq, Nat.reduceAdd, Nat.reduceMul, Nat.reduceSub, Nat.reduceLeDiff, Nat.lt_irrefl, Nat.reduceLT, Nat.reduceEqDiff, Nat.reduceBEq, Int.reduceLE, Int.reduceLT, Int.reduceToNat, w64, eq_self, hbk, hf, h.lenm, h'.lenm, h.idxmA, h.ldmA, h'.idxmA, h'.ldmA])
          | (with_reducible refine AW_seq (fun K hK => ?_))
          | (with_reducible refine AW_region tyOk ?_)
          | ((with_reducible refine AW_quiet (id := 5) tyOk ?_ ?_ ?_); (kernel_rfl); (kernel_rfl))
          | (with_reducible refine AOps_cons (fun K hK => ?_))
          | (with_reducible refine AQOps_cons (fun K hK => ?_))
          | ((with_reducible refine AQOps_nil ?_); try simp only [thenA, blockA, if_true, if_false, reduceIte, Nat.reduceEqDiff, reduceCtorEq])
          | ((with_reducible refine AOps_nil ?_); try simp only [thenA, blockA, if_true, if_false, reduceIte, Nat.reduceEqDiff, reduceCtorEq])
          | (with_reducible refine AW_block ?_)
          | ((first | (with_reducible refine AW_ret ?_) | (with_reducible refine AW_skip ?_) | (with_reducible refine AW_exit ?_)); try simp only [thenA, blockA, if_true, if_false, reduceIte, Nat.reduceEqDiff, reduceCtorEq])
          | ((with_reducible show AW _ _ (.cond _ _ _) _ _ _); refine AW_cond rfl (fun hg => ?_) (fun hg => ?_) <;> first | (exfalso; simp only [reduceCtorEq] at hg; done) | ((try simp only [Bool.not_eq_true', Bool.not_eq_false', decide_eq_true_eq, decide_eq_false_iff_not] at hg); try (exfalso; omega)))
          | ((with_reducible show _ ∧ _); refine And.intro (fun hg => ?_) (fun hg => ?_) <;> (try simp only [Bool.not_eq_true', Bool.not_eq_false'] at hg) <;> simp only [hg] <;> (try simp only [decide_eq_true_eq, decide_eq_false_iff_not] at hg) <;> (try (exfalso; omega)))
          | ((first | (with_reducible apply FunH_intro) | (with_reducible apply AQ_intro)); (first | exact hmc _ _ _ | exact merge1_c _ _ _ _ _ _ _ _ _ _ _ _ _ _ _ _ _ _ _ _ _ _ _ _ _ _ _ _ _ (by first | assumption | exact RdL.app (by assumption) _ | exact RdL_hj rfl (by simp) | exact RdL_h0 rfl (by simp) | exact RdL_nil | exact RdL_emp) (by first | assumption | exact RdL.app (by assumption) _ | exact RdL_hj rfl (by simp) | exact RdL_h0 rfl (by simp) | exact RdL_nil | exact RdL_emp) (by first | assumption | exact RdL.app (by assumption) _ | exact RdL_hj rfl (by simp) | exact RdL_h0 rfl (by simp) | exact RdL_nil | exact RdL_emp) (by first | assumption | exact RdL.app (by assumption) _ | exact RdL_hj rfl (by simp) | exact RdL_h0 rfl (by simp) | exact RdL_nil | exact RdL_emp) (by first | assumption | exact RdL.app (by assumption) _ | exact RdL_hj rfl (by simp) | exact RdL_h0 rfl (by simp) | exact RdL_nil | exact RdL_emp) (by first | assumption | exact RdL.app (by assumption) _ | exact RdL_hj rfl (by simp) | exact RdL_h0 rfl (by simp) | exact RdL_nil | exact RdL_emp) (by first | rfl | assumption | omega | (simp; done)) (by first | rfl | assumption | omega | (simp; done)) (by first | rfl | assumption | omega | (simp; done)) (by first | rfl | assumption | omega | (simp; done)) (by first | assumption | omega | (simp; omega) | (simp; done)) (by first | assumption | omega | (simp; omega) | (simp; done)) (by first | assumption | omega | (simp; omega) | (simp; done)) (by first | assumption | omega | (simp; omega) | (simp; done)) (by first | assumption | (simp; done)) (by first | assumption | (simp; done)) (by first | assumption | (simp; done)) (by first | assumption | (simp; done)) (by first | assumption | omega | (simp; omega) | (simp; done)) | exact settled_c _ _ _ _ _ _ _ _ _ _ (by first | assumption | omega | (simp; omega) | (simp; done)) (by first | assumption | omega | (simp; omega) | (simp; done)) (by first | assumption | omega | (simp; omega) | (simp; done)) (by first | assumption | omega | (simp; omega) | (simp; done)) (by first | assumption | omega | (simp; omega) | (simp; done)) (by first | assumption | omega | (simp; omega) | (simp; done)) (by first | assumption | exact (hp_getj _ _ _).trans rfl | exact (hp_get0 _ _).trans rfl) (by first | assumption | exact (hp_getj _ _ _).trans rfl | exact (hp_get0 _ _).trans rfl) (by first | assumption | exact (hp_getj _ _ _).trans rfl | exact (hp_get0 _ _).trans rfl) (by first | assumption | omega | (simp; omega) | (simp; done)) (by first | assumption | omega | (simp; omega) | (simp; done)) (by first | assumption | omega | (simp; omega) | (simp; done)) _))
          | (clear hK K)
          | fail)
        refine hK _ _ (t + 1, (va + 1, vb + 1, vc + 1), Gb) (by (try simp only); omega) (by (try simp only); omega) ?_ ?_
        · simp only [junkAll, setAll, List.foldl_cons, List.foldl_nil, List.set_cons_succ, List.set_cons_zero, JL, true_or, or_true, and_true, true_and, reduceCtorEq, false_or, or_false, LV.int.injEq, LV.bool.injEq, LV.flt.injEq, LV.sl.injEq, LV.ptr.injEq, eq_self, Int.natCast_add, Int.natCast_one, Int.natCast_zero, Int.ofNat_zero]; simp [hst]
        · simp only [hst, List.length_append, List.length_cons, List.length_nil]
      · repeat' (first
          | ((with_reducible refine hK _ _ ?_); clear hK K)
          | ((with_reducible refine hK _ ?_); clear hK K; try simp only [])
          | ((first | (with_reducible show AOp _ _ _ _ _ _ _) | (with_reducible show AQOp _ _ _ _ _ _ _)); simp (disch := first | ((with_reducible show liveO _ _ _ = true); first | assumption | (exact liveO_setS (by assumption)) | (exact PtL.live (by assumption)) | (exact PtL.liveA (by assumption) _) | (simp only [go_sem]; done)) | omega | assumption | rfl | (simp only [go_sem]; first | done | omega)) only [go_sem, reduceIte, reduceCtorEq, Nat.reduceAdd, Nat.reduceMul, Nat.reduceSub, Nat.reduceLeDiff, Nat.lt_irrefl, Nat.reduceLT, Nat.reduceEqDiff, Nat.reduceBEq, Int.reduceLE, Int.reduceLT, Int.reduceToNat, w64, eq_self, hbk, h.lenm, h'.lenm])
          | (with_reducible refine AW_seq (fun K hK => ?_))
          | (with_reducible refine AW_region tyOk ?_)
          | ((with_reducible refine AW_quiet (id := 5) tyOk ?_ ?_ ?_); (kernel_rfl); (kernel_rfl))
          | (with_reducible refine AOps_cons (fun K hK => ?_))
          | (with_reducible refine AQOps_cons (fun K hK => ?_))
          | ((with_reducible refine AQOps_nil ?_); try simp only [thenA, blockA, if_true, if_false, reduceIte, Nat.reduceEqDiff, reduceCtorEq])
          | ((with_reducible refine AOps_nil ?_); try simp only [thenA, blockA, if_true, if_false, reduceIte, Nat.reduceEqDiff, reduceCtorEq])
          | (with_reducible refine AW_block ?_)
          | ((first | (with_reducible refine AW_ret ?_) | (with_reducible refine AW_skip ?_) | (with_reducible refine AW_exit ?_)); try simp only [thenA, blockA, if_true, if_false, reduceIte, Nat.reduceEqDiff, reduceCtorEq])
          | ((with_reducible show AW _ _ (.cond _ _ _) _ _ _); refine AW_cond rfl (fun hg => ?_) (fun hg => ?_) <;> first | (exfalso; simp only [reduceCtorEq] at hg; done) | ((try simp only [Bool.not_eq_true', Bool.not_eq_false', decide_eq_true_eq, decide_eq_false_iff_not] at hg); try (exfalso; omega)))
          | ((with_reducible show _ ∧ _); refine And.intro (fun hg => ?_) (fun hg => ?_) <;> (try simp only [Bool.not_eq_true', Bool.not_eq_false'] at hg) <;> simp only [hg] <;> (try simp only [decide_eq_true_eq, decide_eq_false_iff_not] at hg) <;> (try (exfalso; omega)))
          | ((first | (with_reducible apply FunH_intro) | (with_reducible apply AQ_intro)); (first | exact hmc _ _ _ | exact merge1_c _ _ _ _ _ _ _ _ _ _ _ _ _ _ _ _ _ _ _ _ _ _ _ _ _ _ _ _ _ (by first | assumption | exact RdL.app (by assumption) _ | exact RdL_hj rfl (by simp) | exact RdL_h0 rfl (by simp) | exact RdL_nil | exact RdL_emp) (by first | assumption | exact RdL.app (by assumption) _ | exact RdL_hj rfl (by simp) | exact RdL_h0 rfl (by simp) | exact RdL_nil | exact RdL_emp) (by first | assumption | exact RdL.app (by assumption) _ | exact RdL_hj rfl (by simp) | exact RdL_h0 rfl (by simp) | exact RdL_nil | exact RdL_emp) (by first | assumption | exact RdL.app (by assumption) _ | exact RdL_hj rfl (by simp) | exact RdL_h0 rfl (by simp) | exact RdL_nil | exact RdL_emp) (by first | assumption | exact RdL.app (by assumption) _ | exact RdL_hj rfl (by simp) | exact RdL_h0 rfl (by simp) | exact RdL_nil | exact RdL_emp) (by first | assumption | exact RdL.app (by assumption) _ | exact RdL_hj rfl (by simp) | exact RdL_h0 rfl (by simp) | exact RdL_nil | exact RdL_emp) (by first | rfl | assumption | omega | (simp; done)) (by first | rfl | assumption | omega | (simp; done)) (by first | rfl | assumption | omega | (simp; done)) (by first | rfl | assumption | omega | (simp; done)) (by first | assumption | omega | (simp; omega) | (simp; done)) (by first | assumption | omega | (simp; omega) | (simp; done)) (by first | assumption | omega | (simp; omega) | (simp; done)) (by first | assumption | omega | (simp; omega) | (simp; done)) (by first | assumption | (simp; done)) (by first | assumption | (simp; done)) (by first | assumption | (simp; done)) (by first | assumption | (simp; done)) (by first | assumption | omega | (simp; omega) | (simp; done)) | exact settled_c _ _ _ _ _ _ _ _ _ _ (by first | assumption | omega | (simp; omega) | (simp; done)) (by first | assumption | omega | (simp; omega) | (simp; done)) (by first | assumption | omega | (simp; omega) | (simp; done)) (by first | assumption | omega | (simp; omega) | (simp; done)) (by first | assumption | omega | (simp; omega) | (simp; done)) (by first | assumption | omega | (simp; omega) | (simp; done)) (by first | assumption | exact (hp_getj _ _ _).trans rfl | exact (hp_get0 _ _).trans rfl) (by first | assumption | exact (hp_getj _ _ _).trans rfl | exact (hp_get0 _ _).trans rfl) (by first | assumption | exact (hp_getj _ _ _).trans rfl | exact (hp_get0 _ _).trans rfl) (by first | assumption | omega | (simp; omega) | (simp; done)) (by first | assumption | omega | (simp; omega) | (simp; done)) (by first | assumption | omega | (simp; omega) | (simp; done)) _))
          | (clear hK K)
          | fail)
        refine hK _ _ (t + 1, (va + 1, vb + 1, vc + 1), Gb) (by (try simp only); omega) (by (try simp only); omega) ?_ ?_
        · simp only [junkAll, setAll, List.foldl_cons, List.foldl_nil, List.set_cons_succ, List.set_cons_zero, JL, true_or, or_true, and_true, true_and, reduceCtorEq, false_or, or_false, LV.int.injEq, LV.bool.injEq, LV.flt.injEq, LV.sl.injEq, LV.ptr.injEq, eq_self, Int.natCast_add, Int.natCast_one, Int.natCast_zero, Int.ofNat_zero]; simp [hst]
        · simp only [hst, List.length_append, List.length_cons, List.length_nil]
    · have hst : mgN vs gs ss vs2 gs2 ss2 (t + 1) = (i + 1, k, W ++ [((ix vs i, ix gs i, ix ss i + exI gs2 ss2 k) : Tp)]) := by simp only [mgN, hp, mgS, hA]; rfl
      unfold mgA at hA
      simp only [Bool.or_eq_true, Bool.and_eq_true, decide_eq_true_eq] at hA
      have hi : i < vs.length := by rcases hA with hA | hA <;> omega
      have hmc := fun (o1 o2 o3 : AO) => merge1_c n c n c2 n (c + c2) x y z x2 y2 z2 vs vs2 gs ss gs2 ss2 i k va vb vc W o1 o2 o3 H Gb h h1 h2 h' h1' h2' a4 a5 b4 b5 (by omega) (by omega) hWl hi g1 g2 k3 k4 (by have := hex2 k; omega)
      by_cases hk : k = vs2.length
      · have hbk : (((k : Nat) : Int) == ((vs2.length : Nat) : Int)) = true := by simp only [beq_iff_eq]; omega
        repeat' (first
          | ((with_reducible refine hK _ _ ?_); clear hK K)
          | ((with_reducible refine hK _ ?_); clear hK K; try simp only [])
          | ((first | (with_reducible show AOp _ _ _ _ _ _ _) | (with_reducible show AQOp _ _ _ _ _ _ _)); simp (disch := first | ((with_reducible show liveO _ _ _ = true); first | assumption | (exact liveO_setS (by assumption)) | (exact PtL.live (by assumption)) | (exact PtL.liveA (by assumption) _) | (simp only [go_sem]; done)) | omega | assumption | rfl | (simp only [go_sem]; first | done | omega)) only [go_sem, reduceIte, reduceCtorEq, Nat.reduceAdd, Nat.reduceMul, Nat.reduceSub, Nat.reduceLeDiff, Nat.lt_irrefl, Nat.reduceLT, Nat.reduceEqDiff, Nat.reduceBEq, Int.reduceLE, Int.reduceLT, Int.reduceToNat, w64, eq_self, hbk, h.lenm, h'.lenm])
          | (with_reducible refine AW_seq (fun K hK => ?_))
          | (with_reducible refine AW_region tyOk ?_)
          | ((with_reducible refine AW_quiet (id := 5) tyOk ?_ ?_ ?_); (kernel_rfl); (kernel_rfl))
          | (with_reducible refine AOps_cons (fun K hK => ?_))
          | (with_reducible refine AQOps_cons (fun K hK => ?_))
          | ((with_reducible refine AQOps_nil ?_); try simp only [thenA, blockA, if_true, if_false, reduceIte, Nat.reduceEqDiff, reduceCtorEq])
          | ((with_reducible refine AOps_nil ?_); try simp only [thenA, blockA, if_true, if_false, reduceIte, Nat.reduceEqDiff, reduceCtorEq])
          | (with_reducible refine AW_block ?_)
          | ((first | (with_reducible refine AW_ret ?_) | (with_reducible refine AW_skip ?_) | (with_reducible refine AW_exit ?_)); try simp only [thenA, blockA, if_true, if_false, reduceIte, Nat.reduceEqDiff, reduceCtorEq])
          | ((with_reducible show AW _ _ (.cond _ _ _) _ _ _); refine AW_cond rfl (fun hg => ?_) (fun hg => ?_) <;> first | (exfalso; simp only [reduceCtorEq] at hg; done) | ((try simp only [Bool.not_eq_true', Bool.not_eq_false', decide_eq_true_eq, decide_eq_false_iff_not] at hg); try (exfalso; omega)))
          | ((with_reducible show _ ∧ _); refine And.intro (fun hg => ?_) (fun hg => ?_) <;> (try simp only [Bool.not_eq_true', Bool.not_eq_false'] at hg) <;> simp only [hg] <;> (try simp only [decide_eq_true_eq, decide_eq_false_iff_not] at hg) <;> (try (exfalso; omega)))
          | ((first | (with_reducible apply FunH_intro) | (with_reducible apply AQ_intro)); (first | exact hmc _ _ _ | exact merge1_c _ _ _ _ _ _ _ _ _ _ _ _ _ _ _ _ _ _ _ _ _ _ _ _ _ _ _ _ _ (by first | assumption | exact RdL.app (by assumption) _ | exact RdL_hj rfl (by simp) | exact RdL_h0 rfl (by simp) | exact RdL_nil | exact RdL_emp) (by first | assumption | exact RdL.app (by assumption) _ | exact RdL_hj rfl (by simp) | exact RdL_h0 rfl (by simp) | exact RdL_nil | exact RdL_emp) (by first | assumption | exact RdL.app (by assumption) _ | exact RdL_hj rfl (by simp) | exact RdL_h0 rfl (by simp) | exact RdL_nil | exact RdL_emp) (by first | assumption | exact RdL.app (by assumption) _ | exact RdL_hj rfl (by simp) | exact RdL_h0 rfl (by simp) | exact RdL_nil | exact RdL_emp) (by first | assumption | exact RdL.app (by assumption) _ | exact RdL_hj rfl (by simp) | exact RdL_h0 rfl (by simp) | exact RdL_nil | exact RdL_emp) (by first | assumption | exact RdL.app (by assumption) _ | exact RdL_hj rfl (by simp) | exact RdL_h0 rfl (by simp) | exact RdL_nil | exact RdL_emp) (by first | rfl | assumption | omega | (simp; done)) (by first | rfl | assumption | omega | (simp; done)) (by first | rfl | assumption | omega | (simp; done)) (by first | rfl | assumption | omega | (simp; done)) (by first | assumption | omega | (simp; omega) | (simp; done)) (by first | assumption | omega | (simp; omega) | (simp; done)) (by first | assumption | omega | (simp; omega) | (simp; done)) (by first | assumption | omega | (simp; omega) | (simp; done)) (by first | assumption | (simp; done)) (by first | assumption | (simp; done)) (by first | assumption | (simp; done)) (by first | assumption | (simp; done)) (by first | assumption | omega | (simp; omega) | (simp; done)) | exact settled_c _ _ _ _ _ _ _ _ _ _ (by first | assumption | omega | (simp; omega) | (simp; done)) (by first | assumption | omega | (simp; omega) | (simp; done)) (by first | assumption | omega | (simp; omega) | (simp; done)) (by first | assumption | omega | (simp; omega) | (simp; done)) (by first | assumption | omega | (simp; omega) | (simp; done)) (by first | assumption | omega | (simp; omega) | (simp; done)) (by first | assumption | exact (hp_getj _ _ _).trans rfl | exact (hp_get0 _ _).trans rfl) (by first | assumption | exact (hp_getj _ _ _).trans rfl | exact (hp_get0 _ _).trans rfl) (by first | assumption | exact (hp_getj _ _ _).trans rfl | exact (hp_get0 _ _).trans rfl) (by first | assumption | omega | (simp; omega) | (simp; done)) (by first | assumption | omega | (simp; omega) | (simp; done)) (by first | assumption | omega | (simp; omega) | (simp; done)) _))
          | (clear hK K)
          | fail)
        refine hK _ _ (t + 1, (va + 1, vb + 1, vc + 1), Gb) (by (try simp only); omega) (by (try simp only); omega) ?_ ?_
        · simp only [junkAll, setAll, List.foldl_cons, List.foldl_nil, List.set_cons_succ, List.set_cons_zero, JL, true_or, or_true, and_true, true_and, reduceCtorEq, false_or, or_false, LV.int.injEq, LV.bool.injEq, LV.flt.injEq, LV.sl.injEq, LV.ptr.injEq, eq_self, Int.natCast_add, Int.natCast_one, Int.natCast_zero, Int.ofNat_zero]; simp [hst]
        · simp only [hst, List.length_append, List.length_cons, List.length_nil]
      · have hk2 : k < vs2.length := by omega
        have hbk : (((k : Nat) : Int) == ((vs2.length : Nat) : Int)) = false := by simp only [beq_eq_false_iff_ne, ne_eq]; omega
        have hf : fLe .f32 (ix vs i) (ix vs2 k) = true := by rcases hA with hA | hA; exact absurd hA hk; exact hA.2
        repeat' (first
          | ((with_reducible refine hK _ _ ?_); clear hK K)
          | ((with_reducible refine hK _ ?_); clear hK K; try simp only [])
          | ((first | (with_reducible show AOp _ _ _ _ _ _ _) | (with_reducible show AQOp _ _ _ _ _ _ _)); simp (disch := first | ((with_reducible show liveO _ _ _ = true); first | assumption | (exact liveO_setS (by assumption)) | (exact PtL.live (by assumption)) | (exact PtL.liveA (by assumption) _) | (simp only [go_sem]; done)) | omega | assumption | rfl | (simp only [go_sem]; first | done | omega)) only [go_sem, reduceIte, reduceCtorEq, Nat.reduceAdd, Nat.reduceMul, Nat.reduceSub, Nat.reduceLeDiff, Nat.lt_irrefl, Nat.reduceLT, Nat.reduceEqDiff, Nat.reduceBEq, Int.reduceLE, Int.reduceLT, Int.reduceToNat, w64, eq_self, hbk, hf, h.lenm, h'.lenm, h.idxmA, h.ldmA, h'.idxmA, h'.ldmA])
          | (with_reducible refine AW_seq (fun K hK => ?_))
          | (with_reducible refine AW_region tyOk ?_)
          | ((with_reducible refine AW_quiet (id := 5) tyOk ?_ ?_ ?_); (kernel_rfl); (kernel_rfl))
          | (with_reducible refine AOps_cons (fun K hK => ?_))
          | (with_reducible refine AQOps_cons (fun K hK => ?_))
          | ((with_reducible refine AQOps_nil ?_); try simp only [thenA, blockA, if_true, if_false, reduceIte, Nat.reduceEqDiff, reduceCtorEq])
          | ((with_reducible refine AOps_nil ?_); try simp only [thenA, blockA, if_true, if_false, reduceIte, Nat.reduceEqDiff, reduceCtorEq])
          | (with_reducible refine AW_block ?_)
          | ((first | (with_reducible refine AW_ret ?_) | (with_reducible refine AW_skip ?_) | (with_reducible refine AW_exit ?_)); try simp only [thenA, blockA, if_true, if_false, reduceIte, Nat.reduceEqDiff, reduceCtorEq])
          | ((with_reducible show AW _ _ (.cond _ _ _) _ _ _); refine AW_cond rfl (fun hg => ?_) (fun hg => ?_) <;> first | (exfalso; simp only [reduceCtorEq] at hg; done) | ((try simp only [Bool.not_eq_true', Bool.not_eq_false', decide_eq_true_eq, decide_eq_false_iff_not] at hg); try (exfalso; omega)))
          | ((with_reducible show _ ∧ _); refine And.intro (fun hg => ?_) (fun hg => ?_) <;> (try simp only [Bool.not_eq_true', Bool.not_eq_false'] at hg) <;> simp only [hg] <;> (try simp only [decide_eq_true_eq, decide_eq_false_iff_not] at hg) <;> (try (exfalso; omega)))
          | ((first | (with_reducible apply FunH_intro) | (with_reducible apply AQ_intro)); (first | exact hmc _ _ _ | exact merge1_c _ _ _ _ _ _ _ _ _ _ _ _ _ _ _ _ _ _ _ _ _ _ _ _ _ _ _ _ _ (by first | assumption | exact RdL.app (by assumption) _ | exact RdL_hj rfl (by simp) | exact RdL_h0 rfl (by simp) | exact RdL_nil | exact RdL_emp) (by first | assumption | exact RdL.app (by assumption) _ | exact RdL_hj rfl (by simp) | exact RdL_h0 rfl (by simp) | exact RdL_nil | exact RdL_emp) (by first | assumption | exact RdL.app (by assumption) _ | exact RdL_hj rfl (by simp) | exact RdL_h0 rfl (by simp) | exact RdL_nil | exact RdL_emp) (by first | assumption | exact RdL.app (by assumption) _ | exact RdL_hj rfl (by simp) | exact RdL_h0 rfl (by simp) | exact RdL_nil | exact RdL_emp) (by first | assumption | exact RdL.app (by assumption) _ | exact RdL_hj rfl (by simp) | exact RdL_h0 rfl (by simp) | exact RdL_nil | exact RdL_emp) (by first | assumption | exact RdL.app (by assumption) _ | exact RdL_hj rfl (by simp) | exact RdL_h0 rfl (by simp) | exact RdL_nil | exact RdL_emp) (by first | rfl | assumption | omega | (simp; done)) (by first | rfl | assumption | omega | (simp; done)) (by first | rfl | assumption | omega | (simp; done)) (by first | rfl | assumption | omega | (simp; done)) (by first | assumption | omega | (simp; omega) | (simp; done)) (by first | assumption | omega | (simp; omega) | (simp; done)) (by first | assumption | omega | (simp; omega) | (simp; done)) (by first | assumption | omega | (simp; omega) | (simp; done)) (by first | assumption | (simp; done)) (by first | assumption | (simp; done)) (by first | assumption | (simp; done)) (by first | assumption | (simp; done)) (by first | assumption | omega | (simp; omega) | (simp; done)) | exact settled_c _ _ _ _ _ _ _ _ _ _ (by first | assumption | omega | (simp; omega) | (simp; done)) (by first | assumption | omega | (simp; omega) | (simp; done)) (by first | assumption | omega | (simp; omega) | (simp; done)) (by first | assumption | omega | (simp; omega) | (simp; done)) (by first | assumption | omega | (simp; omega) | (simp; done)) (by first | assumption | omega | (simp; omega) | (simp; done)) (by first | assumption | exact (hp_getj _ _ _).trans rfl | exact (hp_get0 _ _).trans rfl) (by first | assumption | exact (hp_getj _ _ _).trans rfl | exact (hp_get0 _ _).trans rfl) (by first | assumption | exact (hp_getj _ _ _).trans rfl | exact (hp_get0 _ _).trans rfl) (by first | assumption | omega | (simp; omega) | (simp; done)) (by first | assumption | omega | (simp; omega) | (simp; done)) (by first | assumption | omega | (simp; omega) | (simp; done)) _))
          | (clear hK K)
          | fail)
        refine hK _ _ (t + 1, (va + 1, vb + 1, vc + 1), Gb) (by (try simp only); omega) (by (try simp only); omega) ?_ ?_
        · simp only [junkAll, setAll, List.foldl_cons, List.foldl_nil, List.set_cons_succ, List.set_cons_zero, JL, true_or, or_true, and_true, true_and, reduceCtorEq, false_or, or_false, LV.int.injEq, LV.bool.injEq, LV.flt.injEq, LV.sl.injEq, LV.ptr.injEq, eq_self, Int.natCast_add, Int.natCast_one, Int.natCast_zero, Int.ofNat_zero]; simp [hst]
        · simp only [hst, List.length_append, List.length_cons, List.length_nil]
  have et : t = vs.length + vs2.length := by omega
  subst et
  rw [hp] at hend
  simp only [Prod.mk.injEq] at hend
  obtain ⟨rfl, rfl, e3⟩ := hend
  obtain rfl := e3.symm
  have hS := fun (o1 o2 o3 : AO) => settled_c (H.length + 4) (H.length + 5) (H.length + 6) va vb vc n (c + c2) X (H ++ (o1 :: o2 :: o3 :: ⟨0, false, 27, 5, [.int .i64 n, .int .i64 (c + c2), .sl (H.length + 4) va 0 X.length none, .sl (H.length + 5) vb 0 X.length none, .sl (H.length + 6) vc 0 X.length none]⟩ ::
      ⟨va, false, 37, 1, (X.map tv).map (LV.flt .f32)⟩ :: ⟨vb, false, 2, 1, (X.map tg).map (LV.int .i64)⟩ :: ⟨vc, false, 2, 1, (X.map ts).map (LV.int .i64)⟩ :: Gb)) (by simp) (by simp) (by simp) (by omega) (by omega) (by omega)
      ((hp_getj _ _ _).trans rfl) ((hp_getj _ _ _).trans rfl) ((hp_getj _ _ _).trans rfl) a1 (by omega) (by omega) hT
  rw [hok] at hS hY
  obtain ⟨Z, hZ⟩ : ∃ Z, stT n (c + c2) X = Z := ⟨_, rfl⟩
  rw [hZ] at hS hY
  unfold G3 at hS
  simp only [hp_setj, List.set_cons_succ, List.set_cons_zero] at hS
  revert hK
  cases ok
  · simp only [Bool.false_eq_true, if_false] at hY hS ⊢
    subst hY
    intro hK
    repeat' (first
      | ((with_reducible refine hK _ _ ?_); clear hK K)
      | ((with_reducible refine hK _ ?_); clear hK K; try simp only [])
      | ((first | (with_reducible show AOp _ _ _ _ _ _ _) | (with_reducible show AQOp _ _ _ _ _ _ _)); simp (disch := first | ((with_reducible show liveO _ _ _ = true); first | assumption | (exact liveO_setS (by assumption)) | (exact PtL.live (by assumption)) | (exact PtL.liveA (by assumption) _) | (simp only [go_sem]; done)) | omega | assumption | rfl | (simp only [go_sem]; first | done | omega)) only [go_sem, reduceIte, reduceCtorEq, Nat.reduceAdd, Nat.reduceMul, Nat.reduceSub, Nat.reduceLeDiff, Nat.lt_irrefl, Nat.reduceLT, Nat.reduceEqDiff, Nat.reduceBEq, Int.reduceLE, Int.reduceLT, Int.reduceToNat, w64, eq_self, h.lenm, h'.lenm])
      | (with_reducible refine AW_seq (fun K hK => ?_))
      | (with_reducible refine AW_region tyOk ?_)
      | ((with_reducible refine AW_quiet (id := 5) tyOk ?_ ?_ ?_); (kernel_rfl); (kernel_rfl))
      | (with_reducible refine AOps_cons (fun K hK => ?_))
      | (with_reducible refine AQOps_cons (fun K hK => ?_))
      | ((with_reducible refine AQOps_nil ?_); try simp only [thenA, blockA, if_true, if_false, reduceIte, Nat.reduceEqDiff, reduceCtorEq])
      | ((with_reducible refine AOps_nil ?_); try simp only [thenA, blockA, if_true, if_false, reduceIte, Nat.reduceEqDiff, reduceCtorEq])
      | (with_reducible refine AW_block ?_)
      | ((first | (with_reducible refine AW_ret ?_) | (with_reducible refine AW_skip ?_) | (with_reducible refine AW_exit ?_)); try simp only [thenA, blockA, if_true, if_false, reduceIte, Nat.reduceEqDiff, reduceCtorEq])
      | ((with_reducible show AW _ _ (.cond _ _ _) _ _ _); refine AW_cond rfl (fun hg => ?_) (fun hg => ?_) <;> first | (exfalso; simp only [reduceCtorEq] at hg; done) | ((try simp only [Bool.not_eq_true', Bool.not_eq_false', decide_eq_true_eq, decide_eq_false_iff_not] at hg); try (exfalso; omega)))
      | ((with_reducible show _ ∧ _); refine And.intro (fun hg => ?_) (fun hg => ?_) <;> (try simp only [Bool.not_eq_true', Bool.not_eq_false'] at hg) <;> simp only [hg] <;> (try simp only [decide_eq_true_eq, decide_eq_false_iff_not] at hg) <;> (try (exfalso; omega)))
      | ((first | (with_reducible apply FunH_intro) | (with_reducible apply AQ_intro)); (first | exact hS _ _ _ | exact merge1_c _ _ _ _ _ _ _ _ _ _ _ _ _ _ _ _ _ _ _ _ _ _ _ _ _ _ _ _ _ (by first | assumption | exact RdL.app (by assumption) _ | exact RdL_hj rfl (by simp) | exact RdL_h0 rfl (by simp) | exact RdL_nil | exact RdL_emp) (by first | assumption | exact RdL.app (by assumption) _ | exact RdL_hj rfl (by simp) | exact RdL_h0 rfl (by simp) | exact RdL_nil | exact RdL_emp) (by first | assumption | exact RdL.app (by assumption) _ | exact RdL_hj rfl (by simp) | exact RdL_h0 rfl (by simp) | exact RdL_nil | exact RdL_emp) (by first | assumption | exact RdL.app (by assumption) _ | exact RdL_hj rfl (by simp) | exact RdL_h0 rfl (by simp) | exact RdL_nil | exact RdL_emp) (by first | assumption | exact RdL.app (by assumption) _ | exact RdL_hj rfl (by simp) | exact RdL_h0 rfl (by simp) | exact RdL_nil | exact RdL_emp) (by first | assumption | exact RdL.app (by assumption) _ | exact RdL_hj rfl (by simp) | exact RdL_h0 rfl (by simp) | exact RdL_nil | exact RdL_emp) (by first | rfl | assumption | omega | (simp; done)) (by first | rfl | assumption | omega | (simp; done)) (by first | rfl | assumption | omega | (simp; done)) (by first | rfl | assumption | omega | (simp; done)) (by first | assumption | omega | (simp; omega) | (simp; done)) (by first | assumption | omega | (simp; omega) | (simp; done)) (by first | assumption | omega | (simp; omega) | (simp; done)) (by first | assumption | omega | (simp; omega) | (simp; done)) (by first | assumption | (simp; done)) (by first | assumption | (simp; done)) (by first | assumption | (simp; done)) (by first | assumption | (simp; done)) (by first | assumption | omega | (simp; omega) | (simp; done)) | exact settled_c _ _ _ _ _ _ _ _ _ _ (by first | assumption | omega | (simp; omega) | (simp; done)) (by first | assumption | omega | (simp; omega) | (simp; done)) (by first | assumption | omega | (simp; omega) | (simp; done)) (by first | assumption | omega | (simp; omega) | (simp; done)) (by first | assumption | omega | (simp; omega) | (simp; done)) (by first | assumption | omega | (simp; omega) | (simp; done)) (by first | assumption | exact (hp_getj _ _ _).trans rfl | exact (hp_get0 _ _).trans rfl) (by first | assumption | exact (hp_getj _ _ _).trans rfl | exact (hp_get0 _ _).trans rfl) (by first | assumption | exact (hp_getj _ _ _).trans rfl | exact (hp_get0 _ _).trans rfl) (by first | assumption | omega | (simp; omega) | (simp; done)) (by first | assumption | omega | (simp; omega) | (simp; done)) (by first | assumption | omega | (simp; omega) | (simp; done)) _))
      | (clear hK K)
      | fail)
    first | (refine EndA_rows0 [none, none, none] hcl (by first | exact Or.inr rfl | exact Or.inl rfl) (by simp only [Try.results76, resA, aresL, go_sem, reduceIte, reduceCtorEq, Nat.reduceAdd, Nat.reduceMul, Nat.reduceSub, Nat.reduceLeDiff, Nat.lt_irrefl, Nat.reduceLT, Nat.reduceEqDiff, Nat.reduceBEq, Int.reduceLE, Int.reduceLT, Int.reduceToNat, w64, eq_self] <;> rfl) (by decide) ?_ ?_ ⟨rfl, rfl⟩) | (refine EndA_rows [none, none, none] hcl (by first | exact Or.inr rfl | exact Or.inl rfl) (by simp only [Try.results76, resA, aresL, go_sem, reduceIte, reduceCtorEq, Nat.reduceAdd, Nat.reduceMul, Nat.reduceSub, Nat.reduceLeDiff, Nat.lt_irrefl, Nat.reduceLT, Nat.reduceEqDiff, Nat.reduceBEq, Int.reduceLE, Int.reduceLT, Int.reduceToNat, w64, eq_self] <;> rfl) (by decide) ?_ ?_ ⟨rfl, rfl⟩)
    rotate_left
    · repeat' (first | exact trivial | apply TdT.tup | apply TdT.one | apply TdL.agg | apply TdL.cell | exact TdB.old _ trivial rfl | exact TdB.virt 0 rfl | exact TdB.virt 1 rfl | exact TdB.virt 2 rfl | exact TdB.junk _ | exact TdB.old _ (by assumption) (by assumption) | refine And.intro ?_ ?_)
    all_goals (repeat' (first | (with_reducible exact RowOk.none) | ((with_reducible apply RowOk.emp); exact rfl) | ((with_reducible apply RowOk.eq); (exact rfl); rotate_left; (first | (with_reducible exact scal_int _ _) | (with_reducible exact scal_flt _ _) | (with_reducible exact scal_bool _) | (intro c hc; cases hc; done) | (simp [LV.isCell, bnd]; done))) | exact trivial | refine And.intro ?_ ?_))
    all_goals (try rfl)
  · simp only [if_true] at hY hS ⊢
    subst hY
    intro hK
    repeat' (first
      | ((with_reducible refine hK _ _ ?_); clear hK K)
      | ((with_reducible refine hK _ ?_); clear hK K; try simp only [])
      | ((first | (with_reducible show AOp _ _ _ _ _ _ _) | (with_reducible show AQOp _ _ _ _ _ _ _)); simp (disch := first | ((with_reducible show liveO _ _ _ = true); first | assumption | (exact liveO_setS (by assumption)) | (exact PtL.live (by assumption)) | (exact PtL.liveA (by assumption) _) | (simp only [go_sem]; done)) | omega | assumption | rfl | (simp only [go_sem]; first | done | omega)) only [go_sem, reduceIte, reduceCtorEq, Nat.reduceAdd, Nat.reduceMul, Nat.reduceSub, Nat.reduceLeDiff, Nat.lt_irrefl, Nat.reduceLT, Nat.reduceEqDiff, Nat.reduceBEq, Int.reduceLE, Int.reduceLT, Int.reduceToNat, w64, eq_self, h.lenm, h'.lenm])
      | (with_reducible refine AW_seq (fun K hK => ?_))
      | (with_reducible refine AW_region tyOk ?_)
      | ((with_reducible refine AW_quiet (id := 5) tyOk ?_ ?_ ?_); (kernel_rfl); (kernel_rfl))
      | (with_reducible refine AOps_cons (fun K hK => ?_))
      | (with_reducible refine AQOps_cons (fun K hK => ?_))
      | ((with_reducible refine AQOps_nil ?_); try simp only [thenA, blockA, if_true, if_false, reduceIte, Nat.reduceEqDiff, reduceCtorEq])
      | ((with_reducible refine AOps_nil ?_); try simp only [thenA, blockA, if_true, if_false, reduceIte, Nat.reduceEqDiff, reduceCtorEq])
      | (with_reducible refine AW_block ?_)
      | ((first | (with_reducible refine AW_ret ?_) | (with_reducible refine AW_skip ?_) | (with_reducible refine AW_exit ?_)); try simp only [thenA, blockA, if_true, if_false, reduceIte, Nat.reduceEqDiff, reduceCtorEq])
      | ((with_reducible show AW _ _ (.cond _ _ _) _ _ _); refine AW_cond rfl (fun hg => ?_) (fun hg => ?_) <;> first | (exfalso; simp only [reduceCtorEq] at hg; done) | ((try simp only [Bool.not_eq_true', Bool.not_eq_false', decide_eq_true_eq, decide_eq_false_iff_not] at hg); try (exfalso; omega)))
      | ((with_reducible show _ ∧ _); refine And.intro (fun hg => ?_) (fun hg => ?_) <;> (try simp only [Bool.not_eq_true', Bool.not_eq_false'] at hg) <;> simp only [hg] <;> (try simp only [decide_eq_true_eq, decide_eq_false_iff_not] at hg) <;> (try (exfalso; omega)))
      | ((first | (with_reducible apply FunH_intro) | (with_reducible apply AQ_intro)); (first | exact hS _ _ _ | exact merge1_c _ _ _ _ _ _ _ _ _ _ _ _ _ _ _ _ _ _ _ _ _ _ _ _ _ _ _ _ _ (by first | assumption | exact RdL.app (by assumption) _ | exact RdL_hj rfl (by simp) | exact RdL_h0 rfl (by simp) | exact RdL_nil | exact RdL_emp) (by first | assumption | exact RdL.app (by assumption) _ | exact RdL_hj rfl (by simp) | exact RdL_h0 rfl (by simp) | exact RdL_nil | exact RdL_emp) (by first | assumption | exact RdL.app (by assumption) _ | exact RdL_hj rfl (by simp) | exact RdL_h0 rfl (by simp) | exact RdL_nil | exact RdL_emp) (by first | assumption | exact RdL.app (by assumption) _ | exact RdL_hj rfl (by simp) | exact RdL_h0 rfl (by simp) | exact RdL_nil | exact RdL_emp) (by first | assumption | exact RdL.app (by assumption) _ | exact RdL_hj rfl (by simp) | exact RdL_h0 rfl (by simp) | exact RdL_nil | exact RdL_emp) (by first | assumption | exact RdL.app (by assumption) _ | exact RdL_hj rfl (by simp) | exact RdL_h0 rfl (by simp) | exact RdL_nil | exact RdL_emp) (by first | rfl | assumption | omega | (simp; done)) (by first | rfl | assumption | omega | (simp; done)) (by first | rfl | assumption | omega | (simp; done)) (by first | rfl | assumption | omega | (simp; done)) (by first | assumption | omega | (simp; omega) | (simp; done)) (by first | assumption | omega | (simp; omega) | (simp; done)) (by first | assumption | omega | (simp; omega) | (simp; done)) (by first | assumption | omega | (simp; omega) | (simp; done)) (by first | assumption | (simp; done)) (by first | assumption | (simp; done)) (by first | assumption | (simp; done)) (by first | assumption | (simp; done)) (by first | assumption | omega | (simp; omega) | (simp; done)) | exact settled_c _ _ _ _ _ _ _ _ _ _ (by first | assumption | omega | (simp; omega) | (simp; done)) (by first | assumption | omega | (simp; omega) | (simp; done)) (by first | assumption | omega | (simp; omega) | (simp; done)) (by first | assumption | omega | (simp; omega) | (simp; done)) (by first | assumption | omega | (simp; omega) | (simp; done)) (by first | assumption | omega | (simp; omega) | (simp; done)) (by first | assumption | exact (hp_getj _ _ _).trans rfl | exact (hp_get0 _ _).trans rfl) (by first | assumption | exact (hp_getj _ _ _).trans rfl | exact (hp_get0 _ _).trans rfl) (by first | assumption | exact (hp_getj _ _ _).trans rfl | exact (hp_get0 _ _).trans rfl) (by first | assumption | omega | (simp; omega) | (simp; done)) (by first | assumption | omega | (simp; omega) | (simp; done)) (by first | assumption | omega | (simp; omega) | (simp; done)) _))
      | (clear hK K)
      | fail)
    refine EndA_rows [some 4, some 5, some 6] hcl (by first | exact Or.inr rfl | exact Or.inl rfl) (by simp only [Try.results76, resA, aresL, go_sem, reduceIte, reduceCtorEq, Nat.reduceAdd, Nat.reduceMul, Nat.reduceSub, Nat.reduceLeDiff, Nat.lt_irrefl, Nat.reduceLT, Nat.reduceEqDiff, Nat.reduceBEq, Int.reduceLE, Int.reduceLT, Int.reduceToNat, w64, eq_self] <;> rfl) (by decide) ?_ ?_ ⟨rfl, rfl⟩
    rotate_left
    · repeat' (first | exact trivial | apply TdT.tup | apply TdT.one | apply TdL.agg | apply TdL.cell | exact TdB.old _ trivial rfl | exact TdB.own 0 4 _ _ _ _ rfl _ rfl rfl | exact TdB.own 1 5 _ _ _ _ rfl _ rfl rfl | exact TdB.own 2 6 _ _ _ _ rfl _ rfl rfl | exact TdB.junk _ | exact TdB.old _ (by assumption) (by assumption) | refine And.intro ?_ ?_)
    all_goals (repeat' (first | (with_reducible exact RowOk.none) | ((with_reducible apply RowOk.emp); exact rfl) | ((with_reducible apply RowOk.eq); (exact rfl); rotate_left; (first | (with_reducible exact scal_int _ _) | (with_reducible exact scal_flt _ _) | (with_reducible exact scal_bool _) | (intro c hc; cases hc; done) | (simp [LV.isCell, bnd]; done))) | exact trivial | refine And.intro ?_ ?_))
    all_goals (try rfl)
end Go.Proofs.Ytkkcfbpgcekmjaa
