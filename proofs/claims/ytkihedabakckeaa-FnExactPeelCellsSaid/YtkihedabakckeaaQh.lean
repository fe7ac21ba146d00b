/- PeelCells in the abstract machine: the reference's side. -/
import Derived.Test.YtkihedabakckeaaQg
namespace Go.Proofs.Ytkihedabakckeaa
open Go.RowKit
set_option linter.unusedSimpArgs false
set_option linter.unusedVariables false
set_option maxRecDepth 100000

theorem difB_takeI {K : List Int} {k : Nat} (h : k < K.length) : difB (K.take (k + 1)) = (difB (K.take k) && !(K.take k).contains (ix K k)) := by
  have e : K.take (k + 1) = K.take k ++ [ix K k] := by rw [List.take_add_one, List.getElem?_eq_getElem h, ix_eq _ _ h]; rfl
  rw [e, difB_snoc]
theorem difB_preI {K : List Int} : ∀ (m k : Nat), k + m = K.length → difB (K.take k) = false → difB K = false
  | 0, k, hk, h => by rwa [show k = K.length by omega, List.take_length] at h
  | m + 1, k, hk, h => difB_preI m (k + 1) (by omega) (by rw [difB_takeI (by omega), h]; rfl)
theorem pgI.fin {n s : Int} {L : Nat} {o' t' : List Int} : ∀ (m r : Nat) (left o t : List Int), r + m = L → pgI n s L r (some (o', t')) left o t → o'.length = L ∧ t'.length = L ∧ (∀ x ∈ o', 0 ≤ x ∧ x ≤ 4294967295) ∧ ∀ x ∈ t', 0 ≤ x ∧ x < ((3 * n).toNat : Int)
  | 0, r, left, o, t, hm, h => by
    obtain rfl : r = L := by omega
    have := h.eq
    rw [Nat.sub_self] at this
    cases this
    exact ⟨h.lo, h.lt, h.key.2, h.tb⟩
  | m + 1, r, left, o, t, hm, h => by
    by_cases hneg : oneI n s left < 0
    · have := h.none (by omega) hneg; cases this
    · obtain ⟨c, i, hc, hcM, hil, hhl, -, hflt, -⟩ := oneI_key (n := n) (s := s) h.nd (by omega)
      exact pgI.fin m (r + 1) _ _ _ (by omega) (h.step (by omega) hc hcM hil hhl hflt)
set_option maxHeartbeats 8000000 in
theorem sPeelCells_c (lv : LV) (ks : List Int) (n s : Int) (H : Hp) (h : RdL H lv (ks.map (LV.int .i64))) (hn : ks.length ≤ 1048576) :
    FunH Try.prog 4 [lv, .int .i64 n, .int .i64 s] H fun r H' => r = .tup [.sl H.length 0 0 (pcL ks n s).length none, .bool (pcOk ks n s)] ∧ H' = H ++ [⟨0, false, 2, 1, (pcL ks n s).map (LV.int .i64)⟩] := by
  have hbad : ∀ (hv : pcV ks n s = false), pcL ks n s = [] ∧ pcOk ks n s = false := fun hv => by
    have : pcR ks n s = none := by unfold pcR; rw [hv]; rfl
    unfold pcL pcOk; rw [this]; exact ⟨rfl, rfl⟩
  cases e1 : keysB ks
  · obtain ⟨b1, b2⟩ := hbad (by unfold pcV; rw [e1]; rfl)
    rw [b1, b2]
    (refine FunH_body tyOk Try.func4 rfl (by kernel_rfl) Try.ntmps4 (fun hcl hbd => ?_); simp only [List.length_cons, List.length_nil, Nat.reduceAdd, Nat.reduceSub, List.replicate, List.cons_append, List.nil_append])
    repeat' (first
 | ((with_reducible refine hK _ _ ?_); clear hK K)
 | ((first | (with_reducible show AOp _ _ _ _ _ _ _)); simp (disch := first | ((with_reducible show liveO _ _ _ = true); first | assumption | (exact liveO_setS (by assumption)) | (exact PtL.live (by assumption)) | (exact PtL.liveA (by assumption) _) | (simp only [go_sem]; done)) | omega | assumption | rfl | (simp only [go_sem]; first | done | omega)) only [go_sem, reduceIte, reduceCtorEq, Nat.reduceAdd, Nat.reduceMul, Nat.reduceSub, Nat.reduceLeDiff, Nat.lt_irrefl, Nat.reduceLT, Nat.reduceEqDiff, Nat.reduceBEq, Int.reduceLE, Int.reduceLT, Int.reduceToNat, w64, eq_self, h.lenm, e1])
 | (with_reducible refine AW_seq (fun K hK => ?_))
 | (with_reducible refine AW_region tyOk ?_)
 | (with_reducible refine AOps_cons (fun K hK => ?_))
 | ((with_reducible refine AOps_nil ?_); try simp only [thenA, blockA, if_true, if_false, reduceIte, Nat.reduceEqDiff, reduceCtorEq])
 | (with_reducible refine AW_block ?_)
 | ((first | (with_reducible refine AW_ret ?_) | (with_reducible refine AW_skip ?_) | (with_reducible refine AW_exit ?_)); try simp only [thenA, blockA, if_true, if_false, reduceIte, Nat.reduceEqDiff, reduceCtorEq])
 | ((with_reducible show AW _ _ (.cond _ _ _) _ _ _); refine AW_cond rfl (fun hg => ?_) (fun hg => ?_) <;> first | (exfalso; simp only [reduceCtorEq] at hg; done) | ((try simp only [Bool.not_eq_true', Bool.not_eq_false', decide_eq_true_eq, decide_eq_false_iff_not] at hg); try (exfalso; omega)))
 | ((with_reducible show _ ∧ _); refine And.intro (fun hg => ?_) (fun hg => ?_) <;> (try simp only [Bool.not_eq_true', Bool.not_eq_false'] at hg) <;> simp only [hg] <;> (try simp only [decide_eq_true_eq, decide_eq_false_iff_not] at hg) <;> (try (exfalso; omega)))
 | ((with_reducible apply FunH_intro); (first | exact l02Keys_c _ _ _ (by first | assumption | exact RdL.app (by assumption) _ | exact RdL_hj rfl (by simp) | exact RdL_h0 rfl (by simp) | exact RdL_nil | exact RdL_emp) (by first | assumption | omega | (simp; omega) | (simp; done)) | exact l00In_c _ _ _ _ | exact l02Key_c _ _ | exact l04Has_c _ _ _ _ (by first | assumption | exact RdL.app (by assumption) _ | exact RdL_hj rfl (by simp) | exact RdL_h0 rfl (by simp) | exact RdL_nil | exact RdL_emp) (by first | assumption | omega | (simp; omega) | (simp; done)) | exact l04Order_c _ _ _ _ _ (by first | assumption | exact RdL.app (by assumption) _ | exact RdL_hj rfl (by simp) | exact RdL_h0 rfl (by simp) | exact RdL_nil | exact RdL_emp) (by first | assumption | omega | (simp; omega) | (simp; done)) (by first | assumption | omega | (simp; omega) | (simp; done)) (by first | assumption | omega | (simp; omega) | (simp; done)) _ (by first | assumption | (simp; done)) | exact l04Three_c _ _ _ (by first | assumption | omega | (simp; omega) | (simp; done)) (by first | assumption | omega | (simp; omega) | (simp; done)) (by first | assumption | omega | (simp; omega) | (simp; done)) _))
 | (clear hK K)
      | fail)
    first | (refine EndA_rows0 [none] hcl (by first | exact Or.inr rfl | exact Or.inl rfl) (by simp only [Try.results4, resA, aresL, go_sem, reduceIte, reduceCtorEq, Nat.reduceAdd, Nat.reduceMul, Nat.reduceSub, Nat.reduceLeDiff, Nat.lt_irrefl, Nat.reduceLT, Nat.reduceEqDiff, Nat.reduceBEq, Int.reduceLE, Int.reduceLT, Int.reduceToNat, w64, eq_self] <;> rfl) (by decide) ?_ ?_ ⟨rfl, rfl⟩) | (refine EndA_rows [none] hcl (by first | exact Or.inr rfl | exact Or.inl rfl) (by simp only [Try.results4, resA, aresL, go_sem, reduceIte, reduceCtorEq, Nat.reduceAdd, Nat.reduceMul, Nat.reduceSub, Nat.reduceLeDiff, Nat.lt_irrefl, Nat.reduceLT, Nat.reduceEqDiff, Nat.reduceBEq, Int.reduceLE, Int.reduceLT, Int.reduceToNat, w64, eq_self] <;> rfl) (by decide) ?_ ?_ ⟨rfl, rfl⟩)
    rotate_left
    · repeat' (first | exact trivial | apply TdT.tup | apply TdT.one | apply TdL.agg | apply TdL.cell | exact TdB.old _ trivial rfl | exact TdB.virt 0 rfl | exact TdB.junk _ | exact TdB.old _ (by assumption) (by assumption) | refine And.intro ?_ ?_)
    all_goals (repeat' (first | (with_reducible exact RowOk.none) | ((with_reducible apply RowOk.emp); exact rfl) | ((with_reducible apply RowOk.eq); (exact rfl); rotate_left; (first | (with_reducible exact scal_int _ _) | (with_reducible exact scal_flt _ _) | (with_reducible exact scal_bool _) | (intro c hc; cases hc; done) | (simp [LV.isCell, bnd]; done))) | exact trivial | refine And.intro ?_ ?_))
    all_goals (try rfl)
  cases e3 : inB n 1 128
  · obtain ⟨b1, b2⟩ := hbad (by unfold pcV; rw [e3]; simp)
    rw [b1, b2]
    (refine FunH_body tyOk Try.func4 rfl (by kernel_rfl) Try.ntmps4 (fun hcl hbd => ?_); simp only [List.length_cons, List.length_nil, Nat.reduceAdd, Nat.reduceSub, List.replicate, List.cons_append, List.nil_append])
    repeat' (first
 | ((with_reducible refine hK _ _ ?_); clear hK K)
 | ((first | (with_reducible show AOp _ _ _ _ _ _ _)); simp (disch := first | ((with_reducible show liveO _ _ _ = true); first | assumption | (exact liveO_setS (by assumption)) | (exact PtL.live (by assumption)) | (exact PtL.liveA (by assumption) _) | (simp only [go_sem]; done)) | omega | assumption | rfl | (simp only [go_sem]; first | done | omega)) only [go_sem, reduceIte, reduceCtorEq, Nat.reduceAdd, Nat.reduceMul, Nat.reduceSub, Nat.reduceLeDiff, Nat.lt_irrefl, Nat.reduceLT, Nat.reduceEqDiff, Nat.reduceBEq, Int.reduceLE, Int.reduceLT, Int.reduceToNat, w64, eq_self, h.lenm, e1, e3])
 | (with_reducible refine AW_seq (fun K hK => ?_))
 | (with_reducible refine AW_region tyOk ?_)
 | (with_reducible refine AOps_cons (fun K hK => ?_))
 | ((with_reducible refine AOps_nil ?_); try simp only [thenA, blockA, if_true, if_false, reduceIte, Nat.reduceEqDiff, reduceCtorEq])
 | (with_reducible refine AW_block ?_)
 | ((first | (with_reducible refine AW_ret ?_) | (with_reducible refine AW_skip ?_) | (with_reducible refine AW_exit ?_)); try simp only [thenA, blockA, if_true, if_false, reduceIte, Nat.reduceEqDiff, reduceCtorEq])
 | ((with_reducible show AW _ _ (.cond _ _ _) _ _ _); refine AW_cond rfl (fun hg => ?_) (fun hg => ?_) <;> first | (exfalso; simp only [reduceCtorEq] at hg; done) | ((try simp only [Bool.not_eq_true', Bool.not_eq_false', decide_eq_true_eq, decide_eq_false_iff_not] at hg); try (exfalso; omega)))
 | ((with_reducible show _ ∧ _); refine And.intro (fun hg => ?_) (fun hg => ?_) <;> (try simp only [Bool.not_eq_true', Bool.not_eq_false'] at hg) <;> simp only [hg] <;> (try simp only [decide_eq_true_eq, decide_eq_false_iff_not] at hg) <;> (try (exfalso; omega)))
 | ((with_reducible apply FunH_intro); (first | exact l02Keys_c _ _ _ (by first | assumption | exact RdL.app (by assumption) _ | exact RdL_hj rfl (by simp) | exact RdL_h0 rfl (by simp) | exact RdL_nil | exact RdL_emp) (by first | assumption | omega | (simp; omega) | (simp; done)) | exact l00In_c _ _ _ _ | exact l02Key_c _ _ | exact l04Has_c _ _ _ _ (by first | assumption | exact RdL.app (by assumption) _ | exact RdL_hj rfl (by simp) | exact RdL_h0 rfl (by simp) | exact RdL_nil | exact RdL_emp) (by first | assumption | omega | (simp; omega) | (simp; done)) | exact l04Order_c _ _ _ _ _ (by first | assumption | exact RdL.app (by assumption) _ | exact RdL_hj rfl (by simp) | exact RdL_h0 rfl (by simp) | exact RdL_nil | exact RdL_emp) (by first | assumption | omega | (simp; omega) | (simp; done)) (by first | assumption | omega | (simp; omega) | (simp; done)) (by first | assumption | omega | (simp; omega) | (simp; done)) _ (by first | assumption | (simp; done)) | exact l04Three_c _ _ _ (by first | assumption | omega | (simp; omega) | (simp; done)) (by first | assumption | omega | (simp; omega) | (simp; done)) (by first | assumption | omega | (simp; omega) | (simp; done)) _))
 | (clear hK K)
      | fail)
    first | (refine EndA_rows0 [none] hcl (by first | exact Or.inr rfl | exact Or.inl rfl) (by simp only [Try.results4, resA, aresL, go_sem, reduceIte, reduceCtorEq, Nat.reduceAdd, Nat.reduceMul, Nat.reduceSub, Nat.reduceLeDiff, Nat.lt_irrefl, Nat.reduceLT, Nat.reduceEqDiff, Nat.reduceBEq, Int.reduceLE, Int.reduceLT, Int.reduceToNat, w64, eq_self] <;> rfl) (by decide) ?_ ?_ ⟨rfl, rfl⟩) | (refine EndA_rows [none] hcl (by first | exact Or.inr rfl | exact Or.inl rfl) (by simp only [Try.results4, resA, aresL, go_sem, reduceIte, reduceCtorEq, Nat.reduceAdd, Nat.reduceMul, Nat.reduceSub, Nat.reduceLeDiff, Nat.lt_irrefl, Nat.reduceLT, Nat.reduceEqDiff, Nat.reduceBEq, Int.reduceLE, Int.reduceLT, Int.reduceToNat, w64, eq_self] <;> rfl) (by decide) ?_ ?_ ⟨rfl, rfl⟩)
    rotate_left
    · repeat' (first | exact trivial | apply TdT.tup | apply TdT.one | apply TdL.agg | apply TdL.cell | exact TdB.old _ trivial rfl | exact TdB.virt 0 rfl | exact TdB.junk _ | exact TdB.old _ (by assumption) (by assumption) | refine And.intro ?_ ?_)
    all_goals (repeat' (first | (with_reducible exact RowOk.none) | ((with_reducible apply RowOk.emp); exact rfl) | ((with_reducible apply RowOk.eq); (exact rfl); rotate_left; (first | (with_reducible exact scal_int _ _) | (with_reducible exact scal_flt _ _) | (with_reducible exact scal_bool _) | (intro c hc; cases hc; done) | (simp [LV.isCell, bnd]; done))) | exact trivial | refine And.intro ?_ ?_))
    all_goals (try rfl)
  cases e4 : keyB s
  · obtain ⟨b1, b2⟩ := hbad (by unfold pcV; rw [e4]; simp)
    rw [b1, b2]
    (refine FunH_body tyOk Try.func4 rfl (by kernel_rfl) Try.ntmps4 (fun hcl hbd => ?_); simp only [List.length_cons, List.length_nil, Nat.reduceAdd, Nat.reduceSub, List.replicate, List.cons_append, List.nil_append])
    repeat' (first
 | ((with_reducible refine hK _ _ ?_); clear hK K)
 | ((first | (with_reducible show AOp _ _ _ _ _ _ _)); simp (disch := first | ((with_reducible show liveO _ _ _ = true); first | assumption | (exact liveO_setS (by assumption)) | (exact PtL.live (by assumption)) | (exact PtL.liveA (by assumption) _) | (simp only [go_sem]; done)) | omega | assumption | rfl | (simp only [go_sem]; first | done | omega)) only [go_sem, reduceIte, reduceCtorEq, Nat.reduceAdd, Nat.reduceMul, Nat.reduceSub, Nat.reduceLeDiff, Nat.lt_irrefl, Nat.reduceLT, Nat.reduceEqDiff, Nat.reduceBEq, Int.reduceLE, Int.reduceLT, Int.reduceToNat, w64, eq_self, h.lenm, e1, e3, e4])
 | (with_reducible refine AW_seq (fun K hK => ?_))
 | (with_reducible refine AW_region tyOk ?_)
 | (with_reducible refine AOps_cons (fun K hK => ?_))
 | ((with_reducible refine AOps_nil ?_); try simp only [thenA, blockA, if_true, if_false, reduceIte, Nat.reduceEqDiff, reduceCtorEq])
 | (with_reducible refine AW_block ?_)
 | ((first | (with_reducible refine AW_ret ?_) | (with_reducible refine AW_skip ?_) | (with_reducible refine AW_exit ?_)); try simp only [thenA, blockA, if_true, if_false, reduceIte, Nat.reduceEqDiff, reduceCtorEq])
 | ((with_reducible show AW _ _ (.cond _ _ _) _ _ _); refine AW_cond rfl (fun hg => ?_) (fun hg => ?_) <;> first | (exfalso; simp only [reduceCtorEq] at hg; done) | ((try simp only [Bool.not_eq_true', Bool.not_eq_false', decide_eq_true_eq, decide_eq_false_iff_not] at hg); try (exfalso; omega)))
 | ((with_reducible show _ ∧ _); refine And.intro (fun hg => ?_) (fun hg => ?_) <;> (try simp only [Bool.not_eq_true', Bool.not_eq_false'] at hg) <;> simp only [hg] <;> (try simp only [decide_eq_true_eq, decide_eq_false_iff_not] at hg) <;> (try (exfalso; omega)))
 | ((with_reducible apply FunH_intro); (first | exact l02Keys_c _ _ _ (by first | assumption | exact RdL.app (by assumption) _ | exact RdL_hj rfl (by simp) | exact RdL_h0 rfl (by simp) | exact RdL_nil | exact RdL_emp) (by first | assumption | omega | (simp; omega) | (simp; done)) | exact l00In_c _ _ _ _ | exact l02Key_c _ _ | exact l04Has_c _ _ _ _ (by first | assumption | exact RdL.app (by assumption) _ | exact RdL_hj rfl (by simp) | exact RdL_h0 rfl (by simp) | exact RdL_nil | exact RdL_emp) (by first | assumption | omega | (simp; omega) | (simp; done)) | exact l04Order_c _ _ _ _ _ (by first | assumption | exact RdL.app (by assumption) _ | exact RdL_hj rfl (by simp) | exact RdL_h0 rfl (by simp) | exact RdL_nil | exact RdL_emp) (by first | assumption | omega | (simp; omega) | (simp; done)) (by first | assumption | omega | (simp; omega) | (simp; done)) (by first | assumption | omega | (simp; omega) | (simp; done)) _ (by first | assumption | (simp; done)) | exact l04Three_c _ _ _ (by first | assumption | omega | (simp; omega) | (simp; done)) (by first | assumption | omega | (simp; omega) | (simp; done)) (by first | assumption | omega | (simp; omega) | (simp; done)) _))
 | (clear hK K)
      | fail)
    first | (refine EndA_rows0 [none] hcl (by first | exact Or.inr rfl | exact Or.inl rfl) (by simp only [Try.results4, resA, aresL, go_sem, reduceIte, reduceCtorEq, Nat.reduceAdd, Nat.reduceMul, Nat.reduceSub, Nat.reduceLeDiff, Nat.lt_irrefl, Nat.reduceLT, Nat.reduceEqDiff, Nat.reduceBEq, Int.reduceLE, Int.reduceLT, Int.reduceToNat, w64, eq_self] <;> rfl) (by decide) ?_ ?_ ⟨rfl, rfl⟩) | (refine EndA_rows [none] hcl (by first | exact Or.inr rfl | exact Or.inl rfl) (by simp only [Try.results4, resA, aresL, go_sem, reduceIte, reduceCtorEq, Nat.reduceAdd, Nat.reduceMul, Nat.reduceSub, Nat.reduceLeDiff, Nat.lt_irrefl, Nat.reduceLT, Nat.reduceEqDiff, Nat.reduceBEq, Int.reduceLE, Int.reduceLT, Int.reduceToNat, w64, eq_self] <;> rfl) (by decide) ?_ ?_ ⟨rfl, rfl⟩)
    rotate_left
    · repeat' (first | exact trivial | apply TdT.tup | apply TdT.one | apply TdL.agg | apply TdL.cell | exact TdB.old _ trivial rfl | exact TdB.virt 0 rfl | exact TdB.junk _ | exact TdB.old _ (by assumption) (by assumption) | refine And.intro ?_ ?_)
    all_goals (repeat' (first | (with_reducible exact RowOk.none) | ((with_reducible apply RowOk.emp); exact rfl) | ((with_reducible apply RowOk.eq); (exact rfl); rotate_left; (first | (with_reducible exact scal_int _ _) | (with_reducible exact scal_flt _ _) | (with_reducible exact scal_bool _) | (intro c hc; cases hc; done) | (simp [LV.isCell, bnd]; done))) | exact trivial | refine And.intro ?_ ?_))
    all_goals (try rfl)
  have e3' := e3
  unfold inB at e3'
  simp only [Bool.and_eq_true, decide_eq_true_eq] at e3'
  have e4' := (keyB_iff s).1 e4
  obtain ⟨M, hM⟩ : ∃ M, (3 * n).toNat = M := ⟨_, rfl⟩
  have hMn : (M : Int) = 3 * n := by omega
  have hw3 : IntKind.i64.wrap (3 * n) = (M : Int) := by rw [w64 _ (by omega) (by omega)]; omega
  have hin : ∀ x ∈ ks, 0 ≤ x ∧ x ≤ 4294967295 := fun x hx => by
    unfold keysB at e1
    simp only [Bool.and_eq_true] at e1
    exact (keyB_iff _).1 (List.all_eq_true.1 e1.2 _ hx)
  have hkl : ks.length ≤ 256 := by
    unfold keysB at e1
    simp only [Bool.and_eq_true, decide_eq_true_eq] at e1
    exact e1.1
  have hmk : ∀ (te : TE) (el : Nat) (L : Hp), te.by_ * M ≤ 140737488355328 → amake te el L (M : Int) (M : Int) = some (.sl L.length 0 0 M none, L ++ [⟨0, false, el, te.sz, zeros te.zs M⟩]) := fun te el L h3 => amake_ok (Nat.le_refl _) (by omega) h3
  (refine FunH_body tyOk Try.func4 rfl (by kernel_rfl) Try.ntmps4 (fun hcl hbd => ?_); simp only [List.length_cons, List.length_nil, Nat.reduceAdd, Nat.reduceSub, List.replicate, List.cons_append, List.nil_append])
  repeat' (first
 | ((with_reducible refine hK _ _ ?_); clear hK K)
 | ((first | (with_reducible show AOp _ _ _ _ _ _ _)); simp (disch := first | ((with_reducible show liveO _ _ _ = true); first | assumption | (exact liveO_setS (by assumption)) | (exact PtL.live (by assumption)) | (exact PtL.liveA (by assumption) _) | (simp only [go_sem]; done)) | omega | assumption | rfl | (simp only [go_sem]; first | done | omega)) only [go_sem, reduceIte, reduceCtorEq, Nat.reduceAdd, Nat.reduceMul, Nat.reduceSub, Nat.reduceLeDiff, Nat.lt_irrefl, Nat.reduceLT, Nat.reduceEqDiff, Nat.reduceBEq, Int.reduceLE, Int.reduceLT, Int.reduceToNat, w64, eq_self, h.lenm, e1, e3, e4])
 | (with_reducible refine AW_seq (fun K hK => ?_))
 | (with_reducible refine AW_region tyOk ?_)
 | (with_reducible refine AOps_cons (fun K hK => ?_))
 | ((with_reducible refine AOps_nil ?_); try simp only [thenA, blockA, if_true, if_false, reduceIte, Nat.reduceEqDiff, reduceCtorEq])
 | (with_reducible refine AW_block ?_)
 | ((first | (with_reducible refine AW_ret ?_) | (with_reducible refine AW_skip ?_) | (with_reducible refine AW_exit ?_)); try simp only [thenA, blockA, if_true, if_false, reduceIte, Nat.reduceEqDiff, reduceCtorEq])
 | ((with_reducible show AW _ _ (.cond _ _ _) _ _ _); refine AW_cond rfl (fun hg => ?_) (fun hg => ?_) <;> first | (exfalso; simp only [reduceCtorEq] at hg; done) | ((try simp only [Bool.not_eq_true', Bool.not_eq_false', decide_eq_true_eq, decide_eq_false_iff_not] at hg); try (exfalso; omega)))
 | ((with_reducible show _ ∧ _); refine And.intro (fun hg => ?_) (fun hg => ?_) <;> (try simp only [Bool.not_eq_true', Bool.not_eq_false'] at hg) <;> simp only [hg] <;> (try simp only [decide_eq_true_eq, decide_eq_false_iff_not] at hg) <;> (try (exfalso; omega)))
 | ((with_reducible apply FunH_intro); (first | exact l02Keys_c _ _ _ (by first | assumption | exact RdL.app (by assumption) _ | exact RdL_hj rfl (by simp) | exact RdL_h0 rfl (by simp) | exact RdL_nil | exact RdL_emp) (by first | assumption | omega | (simp; omega) | (simp; done)) | exact l00In_c _ _ _ _ | exact l02Key_c _ _ | exact l04Has_c _ _ _ _ (by first | assumption | exact RdL.app (by assumption) _ | exact RdL_hj rfl (by simp) | exact RdL_h0 rfl (by simp) | exact RdL_nil | exact RdL_emp) (by first | assumption | omega | (simp; omega) | (simp; done)) | exact l04Order_c _ _ _ _ _ (by first | assumption | exact RdL.app (by assumption) _ | exact RdL_hj rfl (by simp) | exact RdL_h0 rfl (by simp) | exact RdL_nil | exact RdL_emp) (by first | assumption | omega | (simp; omega) | (simp; done)) (by first | assumption | omega | (simp; omega) | (simp; done)) (by first | assumption | omega | (simp; omega) | (simp; done)) _ (by first | assumption | (simp; done)) | exact l04Three_c _ _ _ (by first | assumption | omega | (simp; omega) | (simp; done)) (by first | assumption | omega | (simp; omega) | (simp; done)) (by first | assumption | omega | (simp; omega) | (simp; done)) _))
 | (clear hK K)
    | fail)
  refine AW_loopV [6, 7, 8, 31, 32, 33, 34, 35, 36, 37, 38, 39, 40, 41, 42, 43, 44] (fun k : Nat => [(8, .int .i64 (k : Nat))]) (fun _ => H) (fun k => k ≤ ks.length ∧ difB (ks.take k) = true) (fun k => ks.length - k) 0 ⟨Nat.zero_le _, rfl⟩ ?_ rfl ?_
  · simp only [junkAll, setAll, List.foldl_cons, List.foldl_nil, List.set_cons_succ, List.set_cons_zero, JL, true_or, or_true, and_true, true_and, reduceCtorEq, false_or, or_false, LV.int.injEq, LV.bool.injEq, LV.flt.injEq, LV.sl.injEq, LV.ptr.injEq, eq_self, Int.natCast_add, Int.natCast_one, Int.natCast_zero, Int.ofNat_zero]
  intro i ⟨hi, hd⟩ K hK
  simp only [junkAll, setAll, List.foldl_cons, List.foldl_nil, List.set_cons_succ, List.set_cons_zero]
  by_cases hil : i < ks.length
  · have hsp := slice_pre h hil
    have hsu := sub_pre h hil
    have hhas := l04Has_c (subOf lv 0 i) (ks.take i) (ix ks i) H hsu (by rw [List.length_take]; omega)
    obtain ⟨sx, hsx⟩ : ∃ sx, subOf lv 0 i = sx := ⟨_, rfl⟩
    rw [hsx] at hsp hhas
    cases e2 : (ks.take i).contains (ix ks i)
    · have hd2 : difB (ks.take (i + 1)) = true := by rw [difB_takeI hil, hd, e2]; rfl
      rw [e2] at hhas
      repeat' (first
 | ((with_reducible refine hK _ _ ?_); clear hK K)
 | ((with_reducible refine hK _ ?_); clear hK K; try simp only [])
 | ((first | (with_reducible show AOp _ _ _ _ _ _ _) | (with_reducible show AQOp _ _ _ _ _ _ _)); simp (disch := first | ((with_reducible show liveO _ _ _ = true); first | assumption | (exact liveO_setS (by assumption)) | (exact PtL.live (by assumption)) | (exact PtL.liveA (by assumption) _) | (simp only [go_sem]; done)) | omega | assumption | rfl | (simp only [go_sem]; first | done | omega)) only [go_sem, reduceIte, reduceCtorEq, Nat.reduceAdd, Nat.reduceMul, Nat.reduceSub, Nat.reduceLeDiff, Nat.lt_irrefl, Nat.reduceLT, Nat.reduceEqDiff, Nat.reduceBEq, Int.reduceLE, Int.reduceLT, Int.reduceToNat, w64, eq_self, h.lenm, h.idxm, h.ldm, hsp])
 | (with_reducible refine AW_seq (fun K hK => ?_))
 | (with_reducible refine AW_region tyOk ?_)
 | ((with_reducible refine AW_quiet (id := 6) tyOk ?_ ?_ ?_); (kernel_rfl); (kernel_rfl))
 | (with_reducible refine AOps_cons (fun K hK => ?_))
 | (with_reducible refine AQOps_cons (fun K hK => ?_))
 | ((with_reducible refine AQOps_nil ?_); try simp only [thenA, blockA, if_true, if_false, reduceIte, Nat.reduceEqDiff, reduceCtorEq])
 | ((with_reducible refine AOps_nil ?_); try simp only [thenA, blockA, if_true, if_false, reduceIte, Nat.reduceEqDiff, reduceCtorEq])
 | (with_reducible refine AW_block ?_)
 | ((first | (with_reducible refine AW_ret ?_) | (with_reducible refine AW_skip ?_) | (with_reducible refine AW_exit ?_)); try simp only [thenA, blockA, if_true, if_false, reduceIte, Nat.reduceEqDiff, reduceCtorEq])
 | ((with_reducible show AW _ _ (.cond _ _ _) _ _ _); refine AW_cond rfl (fun hg => ?_) (fun hg => ?_) <;> first | (exfalso; simp only [reduceCtorEq] at hg; done) | ((try simp only [Bool.not_eq_true', Bool.not_eq_false', decide_eq_true_eq, decide_eq_false_iff_not] at hg); try (exfalso; omega)))
 | ((with_reducible show _ ∧ _); refine And.intro (fun hg => ?_) (fun hg => ?_) <;> (try simp only [Bool.not_eq_true', Bool.not_eq_false'] at hg) <;> simp only [hg] <;> (try simp only [decide_eq_true_eq, decide_eq_false_iff_not] at hg) <;> (try (exfalso; omega)))
 | ((first | (with_reducible apply FunH_intro) | (with_reducible apply AQ_intro)); (first | exact hhas | exact l02Keys_c _ _ _ (by first | assumption | exact RdL.app (by assumption) _ | exact RdL_hj rfl (by simp) | exact RdL_h0 rfl (by simp) | exact RdL_nil | exact RdL_emp) (by first | assumption | omega | (simp; omega) | (simp; done)) | exact l00In_c _ _ _ _ | exact l02Key_c _ _ | exact l04Has_c _ _ _ _ (by first | assumption | exact RdL.app (by assumption) _ | exact RdL_hj rfl (by simp) | exact RdL_h0 rfl (by simp) | exact RdL_nil | exact RdL_emp) (by first | assumption | omega | (simp; omega) | (simp; done)) | exact l04Order_c _ _ _ _ _ (by first | assumption | exact RdL.app (by assumption) _ | exact RdL_hj rfl (by simp) | exact RdL_h0 rfl (by simp) | exact RdL_nil | exact RdL_emp) (by first | assumption | omega | (simp; omega) | (simp; done)) (by first | assumption | omega | (simp; omega) | (simp; done)) (by first | assumption | omega | (simp; omega) | (simp; done)) _ (by first | assumption | (simp; done)) | exact l04Three_c _ _ _ (by first | assumption | omega | (simp; omega) | (simp; done)) (by first | assumption | omega | (simp; omega) | (simp; done)) (by first | assumption | omega | (simp; omega) | (simp; done)) _))
 | (clear hK K)
        | fail)
      refine hK _ _ (i + 1) ⟨by omega, hd2⟩ (by omega) ?_ rfl
      simp only [junkAll, setAll, List.foldl_cons, List.foldl_nil, List.set_cons_succ, List.set_cons_zero, JL, true_or, or_true, and_true, true_and, reduceCtorEq, false_or, or_false, LV.int.injEq, LV.bool.injEq, LV.flt.injEq, LV.sl.injEq, LV.ptr.injEq, eq_self, Int.natCast_add, Int.natCast_one, Int.natCast_zero, Int.ofNat_zero]
    · have hd2 : difB ks = false := difB_preI (ks.length - (i + 1)) (i + 1) (by omega) (by rw [difB_takeI hil, e2]; simp)
      obtain ⟨b1, b2⟩ := hbad (by unfold pcV; rw [hd2]; simp)
      rw [e2] at hhas
      repeat' (first
 | ((with_reducible refine hK _ _ ?_); clear hK K)
 | ((with_reducible refine hK _ ?_); clear hK K; try simp only [])
 | ((first | (with_reducible show AOp _ _ _ _ _ _ _) | (with_reducible show AQOp _ _ _ _ _ _ _)); simp (disch := first | ((with_reducible show liveO _ _ _ = true); first | assumption | (exact liveO_setS (by assumption)) | (exact PtL.live (by assumption)) | (exact PtL.liveA (by assumption) _) | (simp only [go_sem]; done)) | omega | assumption | rfl | (simp only [go_sem]; first | done | omega)) only [go_sem, reduceIte, reduceCtorEq, Nat.reduceAdd, Nat.reduceMul, Nat.reduceSub, Nat.reduceLeDiff, Nat.lt_irrefl, Nat.reduceLT, Nat.reduceEqDiff, Nat.reduceBEq, Int.reduceLE, Int.reduceLT, Int.reduceToNat, w64, eq_self, h.lenm, h.idxm, h.ldm, hsp])
 | (with_reducible refine AW_seq (fun K hK => ?_))
 | (with_reducible refine AW_region tyOk ?_)
 | ((with_reducible refine AW_quiet (id := 6) tyOk ?_ ?_ ?_); (kernel_rfl); (kernel_rfl))
 | (with_reducible refine AOps_cons (fun K hK => ?_))
 | (with_reducible refine AQOps_cons (fun K hK => ?_))
 | ((with_reducible refine AQOps_nil ?_); try simp only [thenA, blockA, if_true, if_false, reduceIte, Nat.reduceEqDiff, reduceCtorEq])
 | ((with_reducible refine AOps_nil ?_); try simp only [thenA, blockA, if_true, if_false, reduceIte, Nat.reduceEqDiff, reduceCtorEq])
 | (with_reducible refine AW_block ?_)
 | ((first | (with_reducible refine AW_ret ?_) | (with_reducible refine AW_skip ?_) | (with_reducible refine AW_exit ?_)); try simp only [thenA, blockA, if_true, if_false, reduceIte, Nat.reduceEqDiff, reduceCtorEq])
 | ((with_reducible show AW _ _ (.cond _ _ _) _ _ _); refine AW_cond rfl (fun hg => ?_) (fun hg => ?_) <;> first | (exfalso; simp only [reduceCtorEq] at hg; done) | ((try simp only [Bool.not_eq_true', Bool.not_eq_false', decide_eq_true_eq, decide_eq_false_iff_not] at hg); try (exfalso; omega)))
 | ((with_reducible show _ ∧ _); refine And.intro (fun hg => ?_) (fun hg => ?_) <;> (try simp only [Bool.not_eq_true', Bool.not_eq_false'] at hg) <;> simp only [hg] <;> (try simp only [decide_eq_true_eq, decide_eq_false_iff_not] at hg) <;> (try (exfalso; omega)))
 | ((first | (with_reducible apply FunH_intro) | (with_reducible apply AQ_intro)); (first | exact hhas | exact l02Keys_c _ _ _ (by first | assumption | exact RdL.app (by assumption) _ | exact RdL_hj rfl (by simp) | exact RdL_h0 rfl (by simp) | exact RdL_nil | exact RdL_emp) (by first | assumption | omega | (simp; omega) | (simp; done)) | exact l00In_c _ _ _ _ | exact l02Key_c _ _ | exact l04Has_c _ _ _ _ (by first | assumption | exact RdL.app (by assumption) _ | exact RdL_hj rfl (by simp) | exact RdL_h0 rfl (by simp) | exact RdL_nil | exact RdL_emp) (by first | assumption | omega | (simp; omega) | (simp; done)) | exact l04Order_c _ _ _ _ _ (by first | assumption | exact RdL.app (by assumption) _ | exact RdL_hj rfl (by simp) | exact RdL_h0 rfl (by simp) | exact RdL_nil | exact RdL_emp) (by first | assumption | omega | (simp; omega) | (simp; done)) (by first | assumption | omega | (simp; omega) | (simp; done)) (by first | assumption | omega | (simp; omega) | (simp; done)) _ (by first | assumption | (simp; done)) | exact l04Three_c _ _ _ (by first | assumption | omega | (simp; omega) | (simp; done)) (by first | assumption | omega | (simp; omega) | (simp; done)) (by first | assumption | omega | (simp; omega) | (simp; done)) _))
 | (clear hK K)
        | fail)
      rw [b1, b2]
      first | (refine EndA_rows0 [none] hcl (by first | exact Or.inr rfl | exact Or.inl rfl) (by simp only [Try.results4, resA, aresL, go_sem, reduceIte, reduceCtorEq, Nat.reduceAdd, Nat.reduceMul, Nat.reduceSub, Nat.reduceLeDiff, Nat.lt_irrefl, Nat.reduceLT, Nat.reduceEqDiff, Nat.reduceBEq, Int.reduceLE, Int.reduceLT, Int.reduceToNat, w64, eq_self] <;> rfl) (by decide) ?_ ?_ ⟨rfl, rfl⟩) | (refine EndA_rows [none] hcl (by first | exact Or.inr rfl | exact Or.inl rfl) (by simp only [Try.results4, resA, aresL, go_sem, reduceIte, reduceCtorEq, Nat.reduceAdd, Nat.reduceMul, Nat.reduceSub, Nat.reduceLeDiff, Nat.lt_irrefl, Nat.reduceLT, Nat.reduceEqDiff, Nat.reduceBEq, Int.reduceLE, Int.reduceLT, Int.reduceToNat, w64, eq_self] <;> rfl) (by decide) ?_ ?_ ⟨rfl, rfl⟩)
      rotate_left
      · repeat' (first | exact trivial | apply TdT.tup | apply TdT.one | apply TdL.agg | apply TdL.cell | exact TdB.old _ trivial rfl | exact TdB.virt 0 rfl | exact TdB.junk _ | exact TdB.old _ (by assumption) (by assumption) | refine And.intro ?_ ?_)
      all_goals (repeat' (first | (with_reducible exact RowOk.none) | ((with_reducible apply RowOk.emp); exact rfl) | ((with_reducible apply RowOk.eq); (exact rfl); rotate_left; (first | (with_reducible exact scal_int _ _) | (with_reducible exact scal_flt _ _) | (with_reducible exact scal_bool _) | (intro c hc; cases hc; done) | (simp [LV.isCell, bnd]; done))) | exact trivial | refine And.intro ?_ ?_))
      all_goals (try rfl)
  have hie : i = ks.length := by omega
  have e2 : difB ks = true := by rw [hie, List.take_length] at hd; exact hd
  have hv : pcV ks n s = true := by unfold pcV; rw [e1, e2, e3, e4]; rfl
  have hnd := difB_nodup e2
  have hod := l04Order_c lv ks n s H h hkl e3' e4' hnd hin
  have hRR : pcR ks n s = peelG n s ks.length ks [] [] := by unfold pcR; rw [hv]; rfl
  cases hR : peelG n s ks.length ks [] [] with
  | none =>
    have b1 : pcL ks n s = [] := by unfold pcL; rw [hRR, hR]
    have b2 : pcOk ks n s = false := by unfold pcOk; rw [hRR, hR]; rfl
    rw [hR] at hod
    have hod' : FunH Try.prog 14 [lv, .int .i64 n, .int .i64 s] H fun r H' => r = .tup [.nils, .nils, .bool false] ∧ H' = H := hod
    repeat' (first
 | ((with_reducible refine hK _ _ ?_); clear hK K)
 | ((first | (with_reducible show AOp _ _ _ _ _ _ _)); simp (disch := first | ((with_reducible show liveO _ _ _ = true); first | assumption | (exact liveO_setS (by assumption)) | (exact PtL.live (by assumption)) | (exact PtL.liveA (by assumption) _) | (simp only [go_sem]; done)) | omega | assumption | rfl | (simp only [go_sem]; first | done | omega)) only [go_sem, reduceIte, reduceCtorEq, Nat.reduceAdd, Nat.reduceMul, Nat.reduceSub, Nat.reduceLeDiff, Nat.lt_irrefl, Nat.reduceLT, Nat.reduceEqDiff, Nat.reduceBEq, Int.reduceLE, Int.reduceLT, Int.reduceToNat, w64, eq_self, h.lenm])
 | (with_reducible refine AW_seq (fun K hK => ?_))
 | (with_reducible refine AW_region tyOk ?_)
 | (with_reducible refine AOps_cons (fun K hK => ?_))
 | ((with_reducible refine AOps_nil ?_); try simp only [thenA, blockA, if_true, if_false, reduceIte, Nat.reduceEqDiff, reduceCtorEq])
 | (with_reducible refine AW_block ?_)
 | ((first | (with_reducible refine AW_ret ?_) | (with_reducible refine AW_skip ?_) | (with_reducible refine AW_exit ?_)); try simp only [thenA, blockA, if_true, if_false, reduceIte, Nat.reduceEqDiff, reduceCtorEq])
 | ((with_reducible show AW _ _ (.cond _ _ _) _ _ _); refine AW_cond rfl (fun hg => ?_) (fun hg => ?_) <;> first | (exfalso; simp only [reduceCtorEq] at hg; done) | ((try simp only [Bool.not_eq_true', Bool.not_eq_false', decide_eq_true_eq, decide_eq_false_iff_not] at hg); try (exfalso; omega)))
 | ((with_reducible show _ ∧ _); refine And.intro (fun hg => ?_) (fun hg => ?_) <;> (try simp only [Bool.not_eq_true', Bool.not_eq_false'] at hg) <;> simp only [hg] <;> (try simp only [decide_eq_true_eq, decide_eq_false_iff_not] at hg) <;> (try (exfalso; omega)))
 | ((with_reducible apply FunH_intro); (first | ((with_reducible show FunH _ 14 _ _ _); exact hod')))
 | (clear hK K)
      | fail)
    rw [b1, b2]
    first | (refine EndA_rows0 [none] hcl (by first | exact Or.inr rfl | exact Or.inl rfl) (by simp only [Try.results4, resA, aresL, go_sem, reduceIte, reduceCtorEq, Nat.reduceAdd, Nat.reduceMul, Nat.reduceSub, Nat.reduceLeDiff, Nat.lt_irrefl, Nat.reduceLT, Nat.reduceEqDiff, Nat.reduceBEq, Int.reduceLE, Int.reduceLT, Int.reduceToNat, w64, eq_self] <;> rfl) (by decide) ?_ ?_ ⟨rfl, rfl⟩) | (refine EndA_rows [none] hcl (by first | exact Or.inr rfl | exact Or.inl rfl) (by simp only [Try.results4, resA, aresL, go_sem, reduceIte, reduceCtorEq, Nat.reduceAdd, Nat.reduceMul, Nat.reduceSub, Nat.reduceLeDiff, Nat.lt_irrefl, Nat.reduceLT, Nat.reduceEqDiff, Nat.reduceBEq, Int.reduceLE, Int.reduceLT, Int.reduceToNat, w64, eq_self] <;> rfl) (by decide) ?_ ?_ ⟨rfl, rfl⟩)
    rotate_left
    · repeat' (first | exact trivial | apply TdT.tup | apply TdT.one | apply TdL.agg | apply TdL.cell | exact TdB.old _ trivial rfl | exact TdB.virt 0 rfl | exact TdB.junk _ | exact TdB.old _ (by assumption) (by assumption) | refine And.intro ?_ ?_)
    all_goals (repeat' (first | (with_reducible exact RowOk.none) | ((with_reducible apply RowOk.emp); exact rfl) | ((with_reducible apply RowOk.eq); (exact rfl); rotate_left; (first | (with_reducible exact scal_int _ _) | (with_reducible exact scal_flt _ _) | (with_reducible exact scal_bool _) | (intro c hc; cases hc; done) | (simp [LV.isCell, bnd]; done))) | exact trivial | refine And.intro ?_ ?_))
    all_goals (try rfl)
  | some p =>
    obtain ⟨o, t⟩ := p
    have b1 : pcL ks n s = outS n s o t o.length := by unfold pcL; rw [hRR, hR]
    have b2 : pcOk ks n s = true := by unfold pcOk; rw [hRR, hR]; rfl
    rw [hR] at hod
    have hod' : FunH Try.prog 14 [lv, .int .i64 n, .int .i64 s] H fun r H' => r = .tup [.sl H.length 0 0 o.length none, .sl (H.length + 1) 0 0 t.length none, .bool true] ∧ H' = H ++ [⟨0, false, 2, 1, o.map (LV.int .i64)⟩, ⟨0, false, 2, 1, t.map (LV.int .i64)⟩] := hod
    obtain ⟨L, hL⟩ : ∃ L, ks.length = L := ⟨_, rfl⟩
    rw [hL] at hR
    obtain ⟨hlo, hlt, hko, htb⟩ := (pgI_start hnd hin hL hR).fin L 0 ks [] [] (by omega)
    rw [b1, b2]
    rw [hlo, hlt] at hod'
    rw [hlo]
    have hom : (o.map (LV.int .i64)).length = L := by rw [List.length_map, hlo]
    have htm : (t.map (LV.int .i64)).length = L := by rw [List.length_map, hlt]
    have hwl : IntKind.i64.wrap ((L : Int) - 1) = (L : Int) - 1 := w64 _ (by omega) (by omega)
    repeat' (first
 | ((with_reducible refine hK _ _ ?_); clear hK K)
 | ((first | (with_reducible show AOp _ _ _ _ _ _ _)); simp (disch := first | ((with_reducible show liveO _ _ _ = true); first | assumption | (exact liveO_setS (by assumption)) | (exact PtL.live (by assumption)) | (exact PtL.liveA (by assumption) _) | (simp only [go_sem]; done)) | omega | assumption | rfl | (simp only [go_sem]; first | done | omega)) only [go_sem, reduceIte, reduceCtorEq, Nat.reduceAdd, Nat.reduceMul, Nat.reduceSub, Nat.reduceLeDiff, Nat.lt_irrefl, Nat.reduceLT, Nat.reduceEqDiff, Nat.reduceBEq, Int.reduceLE, Int.reduceLT, Int.reduceToNat, w64, eq_self, h.lenm, hL, hw3, hmk, hwl])
 | (with_reducible refine AW_seq (fun K hK => ?_))
 | (with_reducible refine AW_region tyOk ?_)
 | (with_reducible refine AOps_cons (fun K hK => ?_))
 | ((with_reducible refine AOps_nil ?_); try simp only [thenA, blockA, if_true, if_false, reduceIte, Nat.reduceEqDiff, reduceCtorEq])
 | (with_reducible refine AW_block ?_)
 | ((first | (with_reducible refine AW_ret ?_) | (with_reducible refine AW_skip ?_) | (with_reducible refine AW_exit ?_)); try simp only [thenA, blockA, if_true, if_false, reduceIte, Nat.reduceEqDiff, reduceCtorEq])
 | ((with_reducible show AW _ _ (.cond _ _ _) _ _ _); refine AW_cond rfl (fun hg => ?_) (fun hg => ?_) <;> first | (exfalso; simp only [reduceCtorEq] at hg; done) | ((try simp only [Bool.not_eq_true', Bool.not_eq_false', decide_eq_true_eq, decide_eq_false_iff_not] at hg); try (exfalso; omega)))
 | ((with_reducible show _ ∧ _); refine And.intro (fun hg => ?_) (fun hg => ?_) <;> (try simp only [Bool.not_eq_true', Bool.not_eq_false'] at hg) <;> simp only [hg] <;> (try simp only [decide_eq_true_eq, decide_eq_false_iff_not] at hg) <;> (try (exfalso; omega)))
 | ((with_reducible apply FunH_intro); (first | ((with_reducible show FunH _ 14 _ _ _); exact hod')))
 | (clear hK K)
      | fail)
    have hz0 : List.replicate M (LV.int .i64 0) = (outS n s o t 0).map (LV.int .i64) := by rw [← hM]; exact List.map_replicate.symm
    refine AW_loopV [13, 14, 15, 16, 17, 61, 62, 63, 64, 65, 66, 67, 68, 69, 70, 71, 72, 73, 74, 75, 76, 77, 78, 79, 80, 81, 82, 83, 84, 85, 86, 87, 88, 89, 90, 91, 92, 93, 94, 95, 96, 97, 98, 99, 100, 101, 102, 103, 104] (fun p : Nat × Hp => [(13, .int .i64 ((L : Int) - 1 - (p.1 : Nat)))]) (fun p => H ++ (⟨0, false, 2, 1, o.map (LV.int .i64)⟩ :: ⟨0, false, 2, 1, t.map (LV.int .i64)⟩ :: ⟨0, false, 2, 1, (outS n s o t p.1).map (LV.int .i64)⟩ :: p.2)) (fun p => p.1 ≤ L) (fun p => L - p.1) (0, []) (Nat.zero_le _) ?_ ?_ ?_
    · simp only [junkAll, setAll, List.foldl_cons, List.foldl_nil, List.set_cons_succ, List.set_cons_zero, JL, true_or, or_true, and_true, true_and, reduceCtorEq, false_or, or_false, LV.int.injEq, LV.bool.injEq, LV.flt.injEq, LV.sl.injEq, LV.ptr.injEq, eq_self, Int.natCast_add, Int.natCast_one, Int.natCast_zero, Int.ofNat_zero]
      omega
    · rw [hz0]
    intro ⟨q, G⟩ hq K hK
    simp only at hq
    simp only [junkAll, setAll, List.foldl_cons, List.foldl_nil, List.set_cons_succ, List.set_cons_zero]
    by_cases hqr : q < L
    · obtain ⟨e, he⟩ : ∃ e : Nat, (L : Int) - 1 - (q : Nat) = (e : Nat) := ⟨L - 1 - q, by omega⟩
      have heN : o.length - 1 - q = e := by omega
      have her : e < L := by omega
      have hko := hko (ix o e) (ix_mem o e (by omega))
      have htb := htb (ix t e) (ix_mem t e (by omega))
      have hso : outS n s o t (q + 1) = (outS n s o t q).set (ix t e).toNat (xorF (thrL (ix o e) n s 3) (ix t e) (mkI (ix o e) s) (outS n s o t q) 3) := by
        show (outS n s o t q).set _ _ = _
        rw [heN]
      obtain ⟨k, hk⟩ : ∃ k, ix o e = k := ⟨_, rfl⟩
      obtain ⟨c, hc⟩ : ∃ c : Nat, ix t e = (c : Nat) := ⟨(ix t e).toNat, by omega⟩
      have hgo := int_get (xs := o) (i := e) (by omega)
      have hgt := int_get (xs := t) (i := e) (by omega)
      rw [hk] at hko hso hgo
      rw [hc] at htb hso hgt
      rw [Int.toNat_natCast] at hso
      rw [he]
      have hlm3 : ((thrL k n s 3).map (LV.int .i64)).length = 3 := by rw [List.length_map, thrL_len]
      have hol : (outS n s o t q).length = M := by rw [outS_len, hM]
      have holm : ((outS n s o t q).map (LV.int .i64)).length = M := by rw [List.length_map, hol]
      repeat' (first
 | ((with_reducible refine hK _ _ ?_); clear hK K)
 | ((first | (with_reducible show AOp _ _ _ _ _ _ _)); simp (disch := first | ((with_reducible show liveO _ _ _ = true); first | assumption | (exact liveO_setS (by assumption)) | (exact PtL.live (by assumption)) | (exact PtL.liveA (by assumption) _) | (simp only [go_sem]; done)) | omega | assumption | rfl | (simp only [go_sem]; first | done | omega)) only [go_sem, reduceIte, reduceCtorEq, Nat.reduceAdd, Nat.reduceMul, Nat.reduceSub, Nat.reduceLeDiff, Nat.lt_irrefl, Nat.reduceLT, Nat.reduceEqDiff, Nat.reduceBEq, Int.reduceLE, Int.reduceLT, Int.reduceToNat, w64, eq_self, hgo, hom])
 | (with_reducible refine AW_seq (fun K hK => ?_))
 | (with_reducible refine AW_region tyOk ?_)
 | (with_reducible refine AOps_cons (fun K hK => ?_))
 | ((with_reducible refine AOps_nil ?_); try simp only [thenA, blockA, if_true, if_false, reduceIte, Nat.reduceEqDiff, reduceCtorEq])
 | (with_reducible refine AW_block ?_)
 | ((first | (with_reducible refine AW_ret ?_) | (with_reducible refine AW_skip ?_) | (with_reducible refine AW_exit ?_)); try simp only [thenA, blockA, if_true, if_false, reduceIte, Nat.reduceEqDiff, reduceCtorEq])
 | ((with_reducible show AW _ _ (.cond _ _ _) _ _ _); refine AW_cond rfl (fun hg => ?_) (fun hg => ?_) <;> first | (exfalso; simp only [reduceCtorEq] at hg; done) | ((try simp only [Bool.not_eq_true', Bool.not_eq_false', decide_eq_true_eq, decide_eq_false_iff_not] at hg); try (exfalso; omega)))
 | ((with_reducible show _ ∧ _); refine And.intro (fun hg => ?_) (fun hg => ?_) <;> (try simp only [Bool.not_eq_true', Bool.not_eq_false'] at hg) <;> simp only [hg] <;> (try simp only [decide_eq_true_eq, decide_eq_false_iff_not] at hg) <;> (try (exfalso; omega)))
 | ((with_reducible apply FunH_intro); (first | ((with_reducible show FunH _ 15 _ _ _); exact l04Three_c k n s hko e3' e4' _)))
 | (clear hK K)
        | fail)
      obtain ⟨G3, hG3⟩ : ∃ G3, G ++ [(⟨0, false, 2, 1, (thrL k n s 3).map (LV.int .i64)⟩ : AO)] = G3 := ⟨_, rfl⟩
      have oC0 : (H ++ ((⟨0, false, 2, 1, o.map (LV.int .i64)⟩ : AO) :: ⟨0, false, 2, 1, t.map (LV.int .i64)⟩ :: ⟨0, false, 2, 1, (outS n s o t q).map (LV.int .i64)⟩ :: (G ++ [(⟨0, false, 2, 1, (thrL k n s 3).map (LV.int .i64)⟩ : AO)])))[H.length + (G.length + 3)]? = some ⟨0, false, 2, 1, (thrL k n s 3).map (LV.int .i64)⟩ := by
        rw [hp_getj]; simp only [List.getElem?_cons_succ]; simp
      obtain ⟨X, hX⟩ : ∃ X, H ++ ((⟨0, false, 2, 1, o.map (LV.int .i64)⟩ : AO) :: ⟨0, false, 2, 1, t.map (LV.int .i64)⟩ :: ⟨0, false, 2, 1, (outS n s o t q).map (LV.int .i64)⟩ :: G3) = X := ⟨_, rfl⟩
      have oT : X[H.length + 1]? = some ⟨0, false, 2, 1, t.map (LV.int .i64)⟩ := by rw [← hX]; exact (hp_getj _ _ _).trans rfl
      have oO : X[H.length + 2]? = some ⟨0, false, 2, 1, (outS n s o t q).map (LV.int .i64)⟩ := by rw [← hX]; exact (hp_getj _ _ _).trans rfl
      rw [hG3, hX] at oC0
      rw [hG3, hX]
      have hrt : RdL X (.sl (H.length + 1) 0 0 L none) (t.map (LV.int .i64)) := RdL_id oT htm
      have hro : RdL X (.sl (H.length + 2) 0 0 M none) ((outS n s o t q).map (LV.int .i64)) := RdL_id oO holm
      have hrc : RdL X (.sl (H.length + (G.length + 3)) 0 0 3 none) ((thrL k n s 3).map (LV.int .i64)) := RdL_id oC0 hlm3
      refine AW_loopV [16, 17, 76, 77, 78, 79, 80, 81, 82, 83, 84, 85, 86, 87, 88, 89, 90, 91, 92, 93, 94, 95, 96, 97] (fun j : Nat => [(16, .int .i64 (xorF (thrL k n s 3) (c : Nat) (mkI k s) (outS n s o t q) j)), (17, .int .i64 (j : Nat))]) (fun j => X) (fun j => j ≤ 3) (fun j => 3 - j) 0 (Nat.zero_le _) ?_ rfl ?_
      · simp only [junkAll, setAll, List.foldl_cons, List.foldl_nil, List.set_cons_succ, List.set_cons_zero, JL, true_or, or_true, and_true, true_and, reduceCtorEq, false_or, or_false, LV.int.injEq, LV.bool.injEq, LV.flt.injEq, LV.sl.injEq, LV.ptr.injEq, eq_self, Int.natCast_add, Int.natCast_one, Int.natCast_zero, Int.ofNat_zero]
        rfl
      intro j hj K hK
      simp only [junkAll, setAll, List.foldl_cons, List.foldl_nil, List.set_cons_succ, List.set_cons_zero]
      by_cases hj3 : j < 3
      · obtain ⟨p0, p1, p2, p3⟩ := pkI_b (k := k) (s := s) e3' hj3
        obtain ⟨c2, hc2⟩ : ∃ c2 : Nat, pkI k n s j = (c2 : Nat) := ⟨(pkI k n s j).toNat, by omega⟩
        have hcM2 : c2 < M := by omega
        have hcx := thr_ix k n s hj3
        rw [hc2] at hcx
        have hl3 := thrL_len k n s 3
        by_cases hcc : c2 = c
        · have hne : (((c2 : Nat) : Int) != ((c : Nat) : Int)) = false := by rw [hcc]; simp
          have hxs := xorF_same (mk := mkI k s) (out := outS n s o t q) (hcx.trans (congrArg Int.ofNat hcc))
          repeat' (first
 | ((with_reducible refine hK _ _ ?_); clear hK K)
 | ((with_reducible refine hK _ ?_); clear hK K; try simp only [])
 | ((first | (with_reducible show AOp _ _ _ _ _ _ _) | (with_reducible show AQOp _ _ _ _ _ _ _)); simp (disch := first | ((with_reducible show liveO _ _ _ = true); first | assumption | (exact liveO_setS (by assumption)) | (exact PtL.live (by assumption)) | (exact PtL.liveA (by assumption) _) | (simp only [go_sem]; done)) | omega | assumption | rfl | (simp only [go_sem]; first | done | omega)) only [go_sem, reduceIte, reduceCtorEq, Nat.reduceAdd, Nat.reduceMul, Nat.reduceSub, Nat.reduceLeDiff, Nat.lt_irrefl, Nat.reduceLT, Nat.reduceEqDiff, Nat.reduceBEq, Int.reduceLE, Int.reduceLT, Int.reduceToNat, w64, eq_self, hrc.idxm, hrc.ldm, hl3, hcx, hrt.idxm, hrt.ldm, hlt, hc, hne])
 | (with_reducible refine AW_seq (fun K hK => ?_))
 | (with_reducible refine AW_region tyOk ?_)
 | ((with_reducible refine AW_quiet (id := 20) tyOk ?_ ?_ ?_); (kernel_rfl); (kernel_rfl))
 | (with_reducible refine AOps_cons (fun K hK => ?_))
 | (with_reducible refine AQOps_cons (fun K hK => ?_))
 | ((with_reducible refine AQOps_nil ?_); try simp only [thenA, blockA, if_true, if_false, reduceIte, Nat.reduceEqDiff, reduceCtorEq])
 | ((with_reducible refine AOps_nil ?_); try simp only [thenA, blockA, if_true, if_false, reduceIte, Nat.reduceEqDiff, reduceCtorEq])
 | (with_reducible refine AW_block ?_)
 | ((first | (with_reducible refine AW_ret ?_) | (with_reducible refine AW_skip ?_) | (with_reducible refine AW_exit ?_)); try simp only [thenA, blockA, if_true, if_false, reduceIte, Nat.reduceEqDiff, reduceCtorEq])
 | ((with_reducible show AW _ _ (.cond _ _ _) _ _ _); refine AW_cond rfl (fun hg => ?_) (fun hg => ?_) <;> first | (exfalso; simp only [reduceCtorEq] at hg; done) | ((try simp only [Bool.not_eq_true', Bool.not_eq_false', decide_eq_true_eq, decide_eq_false_iff_not] at hg); try (exfalso; omega)))
 | ((with_reducible show _ ∧ _); refine And.intro (fun hg => ?_) (fun hg => ?_) <;> (try simp only [Bool.not_eq_true', Bool.not_eq_false'] at hg) <;> simp only [hg] <;> (try simp only [decide_eq_true_eq, decide_eq_false_iff_not] at hg) <;> (try (exfalso; omega)))
 | (clear hK K)
            | fail)
          refine hK _ _ (j + 1) (by omega) (by omega) ?_ rfl
          simp only [junkAll, setAll, List.foldl_cons, List.foldl_nil, List.set_cons_succ, List.set_cons_zero, JL, true_or, or_true, and_true, true_and, reduceCtorEq, false_or, or_false, LV.int.injEq, LV.bool.injEq, LV.flt.injEq, LV.sl.injEq, LV.ptr.injEq, eq_self, Int.natCast_add, Int.natCast_one, Int.natCast_zero, Int.ofNat_zero]
          exact hxs.symm
        · have hne : (((c2 : Nat) : Int) != ((c : Nat) : Int)) = true := by simp; omega
          have hxs := xorF_next (cells := thrL k n s 3) (tk := (c : Nat)) (mk := mkI k s) (out := outS n s o t q) (j := j) (by rw [hcx]; omega)
          rw [hcx, Int.toNat_natCast] at hxs
          repeat' (first
 | ((with_reducible refine hK _ _ ?_); clear hK K)
 | ((with_reducible refine hK _ ?_); clear hK K; try simp only [])
 | ((first | (with_reducible show AOp _ _ _ _ _ _ _) | (with_reducible show AQOp _ _ _ _ _ _ _)); simp (disch := first | ((with_reducible show liveO _ _ _ = true); first | assumption | (exact liveO_setS (by assumption)) | (exact PtL.live (by assumption)) | (exact PtL.liveA (by assumption) _) | (simp only [go_sem]; done)) | omega | assumption | rfl | (simp only [go_sem]; first | done | omega)) only [go_sem, reduceIte, reduceCtorEq, Nat.reduceAdd, Nat.reduceMul, Nat.reduceSub, Nat.reduceLeDiff, Nat.lt_irrefl, Nat.reduceLT, Nat.reduceEqDiff, Nat.reduceBEq, Int.reduceLE, Int.reduceLT, Int.reduceToNat, w64, eq_self, hrc.idxm, hrc.ldm, hl3, hcx, hrt.idxm, hrt.ldm, hlt, hc, hne, hro.idxm, hro.ldm, hol])
 | (with_reducible refine AW_seq (fun K hK => ?_))
 | (with_reducible refine AW_region tyOk ?_)
 | ((with_reducible refine AW_quiet (id := 20) tyOk ?_ ?_ ?_); (kernel_rfl); (kernel_rfl))
 | (with_reducible refine AOps_cons (fun K hK => ?_))
 | (with_reducible refine AQOps_cons (fun K hK => ?_))
 | ((with_reducible refine AQOps_nil ?_); try simp only [thenA, blockA, if_true, if_false, reduceIte, Nat.reduceEqDiff, reduceCtorEq])
 | ((with_reducible refine AOps_nil ?_); try simp only [thenA, blockA, if_true, if_false, reduceIte, Nat.reduceEqDiff, reduceCtorEq])
 | (with_reducible refine AW_block ?_)
 | ((first | (with_reducible refine AW_ret ?_) | (with_reducible refine AW_skip ?_) | (with_reducible refine AW_exit ?_)); try simp only [thenA, blockA, if_true, if_false, reduceIte, Nat.reduceEqDiff, reduceCtorEq])
 | ((with_reducible show AW _ _ (.cond _ _ _) _ _ _); refine AW_cond rfl (fun hg => ?_) (fun hg => ?_) <;> first | (exfalso; simp only [reduceCtorEq] at hg; done) | ((try simp only [Bool.not_eq_true', Bool.not_eq_false', decide_eq_true_eq, decide_eq_false_iff_not] at hg); try (exfalso; omega)))
 | ((with_reducible show _ ∧ _); refine And.intro (fun hg => ?_) (fun hg => ?_) <;> (try simp only [Bool.not_eq_true', Bool.not_eq_false'] at hg) <;> simp only [hg] <;> (try simp only [decide_eq_true_eq, decide_eq_false_iff_not] at hg) <;> (try (exfalso; omega)))
 | (clear hK K)
            | fail)
          refine hK _ _ (j + 1) (by omega) (by omega) ?_ rfl
          simp only [junkAll, setAll, List.foldl_cons, List.foldl_nil, List.set_cons_succ, List.set_cons_zero, JL, true_or, or_true, and_true, true_and, reduceCtorEq, false_or, or_false, LV.int.injEq, LV.bool.injEq, LV.flt.injEq, LV.sl.injEq, LV.ptr.injEq, eq_self, Int.natCast_add, Int.natCast_one, Int.natCast_zero, Int.ofNat_zero]
          exact hxs.symm
      · have hje : j = 3 := by omega
        subst hje
        have hst : ((outS n s o t q).map (LV.int .i64)).set c (.int .i64 (xorF (thrL k n s 3) (c : Nat) (mkI k s) (outS n s o t q) 3)) = (outS n s o t (q + 1)).map (LV.int .i64) := by rw [hso, List.map_set]
        have hcM3 : c < M := by omega
        rw [← hX]
        repeat' (first
 | ((with_reducible refine hK _ _ ?_); clear hK K)
 | ((first | (with_reducible show AOp _ _ _ _ _ _ _)); simp (disch := first | ((with_reducible show liveO _ _ _ = true); first | assumption | (exact liveO_setS (by assumption)) | (exact PtL.live (by assumption)) | (exact PtL.liveA (by assumption) _) | (simp only [go_sem]; done)) | omega | assumption | rfl | (simp only [go_sem]; first | done | omega)) only [go_sem, reduceIte, reduceCtorEq, Nat.reduceAdd, Nat.reduceMul, Nat.reduceSub, Nat.reduceLeDiff, Nat.lt_irrefl, Nat.reduceLT, Nat.reduceEqDiff, Nat.reduceBEq, Int.reduceLE, Int.reduceLT, Int.reduceToNat, w64, eq_self, hgt, htm, holm, hst])
 | (with_reducible refine AW_seq (fun K hK => ?_))
 | (with_reducible refine AW_region tyOk ?_)
 | (with_reducible refine AOps_cons (fun K hK => ?_))
 | ((with_reducible refine AOps_nil ?_); try simp only [thenA, blockA, if_true, if_false, reduceIte, Nat.reduceEqDiff, reduceCtorEq])
 | (with_reducible refine AW_block ?_)
 | ((first | (with_reducible refine AW_ret ?_) | (with_reducible refine AW_skip ?_) | (with_reducible refine AW_exit ?_)); try simp only [thenA, blockA, if_true, if_false, reduceIte, Nat.reduceEqDiff, reduceCtorEq])
 | ((with_reducible show AW _ _ (.cond _ _ _) _ _ _); refine AW_cond rfl (fun hg => ?_) (fun hg => ?_) <;> first | (exfalso; simp only [reduceCtorEq] at hg; done) | ((try simp only [Bool.not_eq_true', Bool.not_eq_false', decide_eq_true_eq, decide_eq_false_iff_not] at hg); try (exfalso; omega)))
 | ((with_reducible show _ ∧ _); refine And.intro (fun hg => ?_) (fun hg => ?_) <;> (try simp only [Bool.not_eq_true', Bool.not_eq_false'] at hg) <;> simp only [hg] <;> (try simp only [decide_eq_true_eq, decide_eq_false_iff_not] at hg) <;> (try (exfalso; omega)))
 | (clear hK K)
          | fail)
        refine hK _ _ (q + 1, G3) (by simp only; omega) (by simp only; omega) ?_ rfl
        simp only [junkAll, setAll, List.foldl_cons, List.foldl_nil, List.set_cons_succ, List.set_cons_zero, JL, true_or, or_true, and_true, true_and, reduceCtorEq, false_or, or_false, LV.int.injEq, LV.bool.injEq, LV.flt.injEq, LV.sl.injEq, LV.ptr.injEq, eq_self, Int.natCast_add, Int.natCast_one, Int.natCast_zero, Int.ofNat_zero]
        omega
    · have hqe : q = L := by omega
      have hqe' : ((L : Int) - 1 - (q : Nat)) < 0 := by omega
      repeat' (first
 | ((with_reducible refine hK _ _ ?_); clear hK K)
 | ((first | (with_reducible show AOp _ _ _ _ _ _ _)); simp (disch := first | ((with_reducible show liveO _ _ _ = true); first | assumption | (exact liveO_setS (by assumption)) | (exact PtL.live (by assumption)) | (exact PtL.liveA (by assumption) _) | (simp only [go_sem]; done)) | omega | assumption | rfl | (simp only [go_sem]; first | done | omega)) only [go_sem, reduceIte, reduceCtorEq, Nat.reduceAdd, Nat.reduceMul, Nat.reduceSub, Nat.reduceLeDiff, Nat.lt_irrefl, Nat.reduceLT, Nat.reduceEqDiff, Nat.reduceBEq, Int.reduceLE, Int.reduceLT, Int.reduceToNat, w64, eq_self, hqe'])
 | (with_reducible refine AW_seq (fun K hK => ?_))
 | (with_reducible refine AW_region tyOk ?_)
 | (with_reducible refine AOps_cons (fun K hK => ?_))
 | ((with_reducible refine AOps_nil ?_); try simp only [thenA, blockA, if_true, if_false, reduceIte, Nat.reduceEqDiff, reduceCtorEq])
 | (with_reducible refine AW_block ?_)
 | ((first | (with_reducible refine AW_ret ?_) | (with_reducible refine AW_skip ?_) | (with_reducible refine AW_exit ?_)); try simp only [thenA, blockA, if_true, if_false, reduceIte, Nat.reduceEqDiff, reduceCtorEq])
 | ((with_reducible show AW _ _ (.cond _ _ _) _ _ _); refine AW_cond rfl (fun hg => ?_) (fun hg => ?_) <;> first | (exfalso; simp only [reduceCtorEq] at hg; done) | ((try simp only [Bool.not_eq_true', Bool.not_eq_false', decide_eq_true_eq, decide_eq_false_iff_not] at hg); try (exfalso; omega)))
 | ((with_reducible show _ ∧ _); refine And.intro (fun hg => ?_) (fun hg => ?_) <;> (try simp only [Bool.not_eq_true', Bool.not_eq_false'] at hg) <;> simp only [hg] <;> (try simp only [decide_eq_true_eq, decide_eq_false_iff_not] at hg) <;> (try (exfalso; omega)))
 | (clear hK K)
        | fail)
      refine EndA_rows [some 2] hcl (by first | exact Or.inr rfl | exact Or.inl rfl) (by simp only [Try.results4, resA, aresL, go_sem] <;> rfl) (by simp) ?_ ?_ ⟨rfl, rfl⟩
      · refine ⟨RowOk.eq (rfl : _ = some _) ?_ (scal_int _ _), trivial⟩
        rw [hqe, b1, hlo]
      · refine TdT.tup ⟨TdL.cell ?_, TdL.cell ?_, trivial⟩
        · rw [b1, outS_len, hM]
          exact TdB.own 0 2 _ _ _ _ rfl _ rfl rfl
        · rw [b2]; exact TdB.old _ trivial rfl
end Go.Proofs.Ytkihedabakckeaa
