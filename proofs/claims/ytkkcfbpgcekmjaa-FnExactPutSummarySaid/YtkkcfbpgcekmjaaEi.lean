/- SqueezeSummary in the abstract machine. -/
import Derived.Test.YtkkcfbpgcekmjaaEg
import Derived.Test.YtkkcfbpgcekmjaaZn
import Derived.Test.YtkkcfbpgcekmjaaBp
namespace Go.Proofs.Ytkkcfbpgcekmjaa
open Go.RowKit
set_option linter.unusedSimpArgs false
set_option linter.unusedVariables false
set_option maxRecDepth 100000

theorem summB_all' {n c : Int} {vs : List (Option Nat)} {gs ss : List Int} (h : summB n c vs gs ss = true) :
    (2 ≤ n ∧ n ≤ 1000) ∧ (0 ≤ c ∧ c ≤ 1000000) ∧ vs.length ≤ 64 ∧ gs.length = vs.length ∧ ss.length = vs.length ∧ ascFB vs = true ∧ (∀ x ∈ gs, 1 ≤ x ∧ x ≤ 1000000) ∧ (∀ x ∈ ss, 0 ≤ x ∧ x ≤ c) ∧ sumI gs = c ∧ endsB gs ss = true := by
  unfold summB at h
  simp only [Bool.and_eq_true, decide_eq_true_eq] at h
  obtain ⟨⟨⟨⟨⟨⟨⟨⟨⟨h1, h2⟩, h3⟩, h4⟩, h5⟩, h6⟩, h7⟩, h8⟩, h9⟩, h10⟩ := h
  exact ⟨by simpa [inB] using h1, by simpa [inB] using h2, h3, h4, h5, h6, inB_all h7, inB_all h8, h9, h10⟩
theorem mkT_TB {vs : List (Option Nat)} {gs ss : List Int} {B : Int} (h1 : gs.length = vs.length) (h2 : ss.length = vs.length) (hg : ∀ x ∈ gs, 0 ≤ x) (hs : ∀ x ∈ ss, 0 ≤ x ∧ x ≤ B) (ht : sumI gs ≤ B) : TB B (mkT vs gs ss) := by
  obtain ⟨a, b, c, d⟩ := mkT_all h1 h2
  refine ⟨fun t h => hg _ ?_, fun t h => hs _ ?_, by rw [b]; exact ht⟩
  · rw [← b]; exact List.mem_map_of_mem h
  · rw [← c]; exact List.mem_map_of_mem h
def sqT (n c : Int) (vs : List (Option Nat)) (gs ss : List Int) : List Tp := sqz (roomI n c) (mkT vs gs ss)
def sumT (n c : Int) (X : List Tp) : Bool := summB n c (X.map tv) (X.map tg) (X.map ts)
def ssOk (n c : Int) (vs : List (Option Nat)) (gs ss : List Int) : Bool := summB n c vs gs ss && sumT n c (sqT n c vs gs ss)
def ssL (n c : Int) (vs : List (Option Nat)) (gs ss : List Int) : List Tp := if ssOk n c vs gs ss then sqT n c vs gs ss else []
theorem sqz_len (room : Int) (L : List Tp) : (sqz room L).length ≤ L.length := by
  cases L with
  | nil => exact Nat.le_refl _
  | cons t r => have := sqF_len (room := room) r; simp only [sqz, List.length_cons]; omega
theorem ssL_len (n c : Int) (vs : List (Option Nat)) (gs ss : List Int) : (ssL n c vs gs ss).length ≤ 64 := by
  unfold ssL
  cases e : ssOk n c vs gs ss
  · exact Nat.zero_le _
  · unfold ssOk at e
    obtain ⟨_, e2⟩ := Bool.and_eq_true_iff.1 e
    obtain ⟨_, _, h, _⟩ := summB_all' e2
    simpa using h
set_option maxHeartbeats 2000000 in
theorem copySummary_c (n c : Int) (x y z : LV) (vs : List (Option Nat)) (gs ss : List Int) (H : Hp) (h : RdL H x (vs.map (LV.flt .f32))) (h1 : RdL H y (gs.map (LV.int .i64))) (h2 : RdL H z (ss.map (LV.int .i64))) (hn : vs.length ≤ 1048576) (hn1 : gs.length ≤ 1048576) (hn2 : ss.length ≤ 1048576) :
    FunH Try.prog 128 [.agg [.int .i64 n, .int .i64 c, x, y, z]] H fun r' H' => r' = .agg [.int .i64 n, .int .i64 c, .sl H.length 0 0 vs.length none, .sl (H.length + 1) 0 0 gs.length none, .sl (H.length + 2) 0 0 ss.length none] ∧
      H' = H ++ [⟨0, false, 37, 1, vs.map (LV.flt .f32)⟩, ⟨0, false, 2, 1, gs.map (LV.int .i64)⟩, ⟨0, false, 2, 1, ss.map (LV.int .i64)⟩] := by
  (refine FunH_body tyOk Try.func128 rfl (by kernel_rfl) Try.ntmps128 (fun hcl hbd => ?_); simp only [List.length_cons, List.length_nil, Nat.reduceAdd, Nat.reduceSub, List.replicate, List.cons_append, List.nil_append])
  repeat' (first
    | ((with_reducible refine hK _ _ ?_); clear hK K)
    | ((first | (with_reducible show AOp _ _ _ _ _ _ _)); simp (disch := first | ((with_reducible show liveO _ _ _ = true); first | assumption | (exact liveO_setS (by assumption)) | (exact PtL.live (by assumption)) | (exact PtL.liveA (by assumption) _) | (simp only [go_sem]; done)) | omega | assumption | rfl | (simp only [go_sem]; first | done | omega)) only [go_sem, reduceIte, reduceCtorEq, Nat.reduceAdd, Nat.reduceMul, Nat.reduceSub, Nat.reduceLeDiff, Nat.lt_irrefl, Nat.reduceLT, Nat.reduceEqDiff, Nat.reduceBEq, Int.reduceLE, Int.reduceLT, Int.reduceToNat, w64, eq_self, h.isCell, h1.isCell, h2.isCell])
    | (with_reducible refine AW_seq (fun K hK => ?_))
    | (with_reducible refine AW_region tyOk ?_)
    | (with_reducible refine AOps_cons (fun K hK => ?_))
    | ((with_reducible refine AOps_nil ?_); try simp only [thenA, blockA, if_true, if_false, reduceIte, Nat.reduceEqDiff, reduceCtorEq])
    | (with_reducible refine AW_block ?_)
    | ((first | (with_reducible refine AW_ret ?_) | (with_reducible refine AW_skip ?_) | (with_reducible refine AW_exit ?_)); try simp only [thenA, blockA, if_true, if_false, reduceIte, Nat.reduceEqDiff, reduceCtorEq])
    | ((with_reducible show AW _ _ (.cond _ _ _) _ _ _); refine AW_cond rfl (fun hg => ?_) (fun hg => ?_) <;> first | (exfalso; simp only [reduceCtorEq] at hg; done) | ((try simp only [Bool.not_eq_true', Bool.not_eq_false', decide_eq_true_eq, decide_eq_false_iff_not] at hg); try (exfalso; omega)))
    | ((with_reducible show _ ∧ _); refine And.intro (fun hg => ?_) (fun hg => ?_) <;> (try simp only [Bool.not_eq_true', Bool.not_eq_false'] at hg) <;> simp only [hg] <;> (try simp only [decide_eq_true_eq, decide_eq_false_iff_not] at hg) <;> (try (exfalso; omega)))
    | ((with_reducible apply FunH_intro); (first | exact Clone_int64_c _ _ _ (by first | assumption | exact RdL.app (by assumption) _ | exact RdL_hj rfl (by simp) | exact RdL_h0 rfl (by simp) | exact RdL_nil | exact RdL_emp) (by first | assumption | omega | (simp; omega) | (simp; done)) | exact Clone_float32_c _ _ _ (by first | assumption | exact RdL.app (by assumption) _ | exact RdL_hj rfl (by simp) | exact RdL_h0 rfl (by simp) | exact RdL_nil | exact RdL_emp) (by first | assumption | omega | (simp; omega) | (simp; done))))
    | (clear hK K)
    | fail)
  refine EndA_rows [some 2, some 3, some 4] hcl (by first | exact Or.inr rfl | exact Or.inl rfl) (by simp only [Try.results128, resA, aresL, go_sem, reduceIte, reduceCtorEq, Nat.reduceAdd, Nat.reduceMul, Nat.reduceSub, Nat.reduceLeDiff, Nat.lt_irrefl, Nat.reduceLT, Nat.reduceEqDiff, Nat.reduceBEq, Int.reduceLE, Int.reduceLT, Int.reduceToNat, w64, eq_self] <;> rfl) (by decide) ?_ ?_ ⟨rfl, rfl⟩
  rotate_left
  · repeat' (first | exact trivial | apply TdT.tup | apply TdT.one | apply TdL.agg | apply TdL.cell | exact TdB.old _ trivial rfl | exact TdB.own 0 2 _ _ _ _ rfl _ rfl rfl | exact TdB.own 1 3 _ _ _ _ rfl _ rfl rfl | exact TdB.own 2 4 _ _ _ _ rfl _ rfl rfl | exact TdB.junk _ | exact TdB.old _ (by assumption) (by assumption) | refine And.intro ?_ ?_)
  all_goals (repeat' (first | (with_reducible exact RowOk.none) | ((with_reducible apply RowOk.emp); exact rfl) | ((with_reducible apply RowOk.eq); (exact rfl); rotate_left; (first | (with_reducible exact scal_int _ _) | (with_reducible exact scal_flt _ _) | (with_reducible exact scal_bool _) | (intro c hc; cases hc; done) | (simp [LV.isCell, bnd]; done))) | exact trivial | refine And.intro ?_ ?_))
  all_goals (try rfl)
theorem l05GiveT_c (n c : Int) (x y z : LV) (vs : List (Option Nat)) (gs ss : List Int) (H : Hp) (h : RdL H x (vs.map (LV.flt .f32))) (h1 : RdL H y (gs.map (LV.int .i64))) (h2 : RdL H z (ss.map (LV.int .i64))) (hn : vs.length ≤ 1048576) (hn1 : gs.length ≤ 1048576) (hn2 : ss.length ≤ 1048576) (e : summB n c vs gs ss = true) :
    FunH Try.prog 73 [.agg [.int .i64 n, .int .i64 c, x, y, z]] H fun r' H' => r' = .tup [.agg [.int .i64 n, .int .i64 c, x, y, z], .bool true] ∧ H' = H := by
  have hbx := h.bnd
  have hby := h1.bnd
  have hbz := h2.bnd
  (refine FunH_body tyOk Try.func73 rfl (by kernel_rfl) Try.ntmps73 (fun hcl hbd => ?_); simp only [List.length_cons, List.length_nil, Nat.reduceAdd, Nat.reduceSub, List.replicate, List.cons_append, List.nil_append])
  repeat' (first
    | ((with_reducible refine hK _ _ ?_); clear hK K)
    | ((first | (with_reducible show AOp _ _ _ _ _ _ _)); simp (disch := first | ((with_reducible show liveO _ _ _ = true); first | assumption | (exact liveO_setS (by assumption)) | (exact PtL.live (by assumption)) | (exact PtL.liveA (by assumption) _) | (simp only [go_sem]; done)) | omega | assumption | rfl | (simp only [go_sem]; first | done | omega)) only [go_sem, reduceIte, reduceCtorEq, Nat.reduceAdd, Nat.reduceMul, Nat.reduceSub, Nat.reduceLeDiff, Nat.lt_irrefl, Nat.reduceLT, Nat.reduceEqDiff, Nat.reduceBEq, Int.reduceLE, Int.reduceLT, Int.reduceToNat, w64, eq_self, h.isCell, h1.isCell, h2.isCell, e])
    | (with_reducible refine AW_seq (fun K hK => ?_))
    | (with_reducible refine AW_region tyOk ?_)
    | (with_reducible refine AOps_cons (fun K hK => ?_))
    | ((with_reducible refine AOps_nil ?_); try simp only [thenA, blockA, if_true, if_false, reduceIte, Nat.reduceEqDiff, reduceCtorEq])
    | (with_reducible refine AW_block ?_)
    | ((first | (with_reducible refine AW_ret ?_) | (with_reducible refine AW_skip ?_) | (with_reducible refine AW_exit ?_)); try simp only [thenA, blockA, if_true, if_false, reduceIte, Nat.reduceEqDiff, reduceCtorEq])
    | ((with_reducible show AW _ _ (.cond _ _ _) _ _ _); refine AW_cond rfl (fun hg => ?_) (fun hg => ?_) <;> first | (exfalso; simp only [reduceCtorEq] at hg; done) | ((try simp only [Bool.not_eq_true', Bool.not_eq_false', decide_eq_true_eq, decide_eq_false_iff_not] at hg); try (exfalso; omega)))
    | ((with_reducible show _ ∧ _); refine And.intro (fun hg => ?_) (fun hg => ?_) <;> (try simp only [Bool.not_eq_true', Bool.not_eq_false'] at hg) <;> simp only [hg] <;> (try simp only [decide_eq_true_eq, decide_eq_false_iff_not] at hg) <;> (try (exfalso; omega)))
    | ((with_reducible apply FunH_intro); (first | exact l05Is_c _ _ _ _ _ _ _ _ _ _ _ (by first | assumption | exact PtL.app (by assumption) _ | exact PtL_h0 rfl | exact PtL_hj rfl) (by first | assumption | exact RdL.app (by assumption) _ | exact RdL_hj rfl (by simp) | exact RdL_h0 rfl (by simp) | exact RdL_nil | exact RdL_emp) (by first | assumption | exact RdL.app (by assumption) _ | exact RdL_hj rfl (by simp) | exact RdL_h0 rfl (by simp) | exact RdL_nil | exact RdL_emp) (by first | assumption | exact RdL.app (by assumption) _ | exact RdL_hj rfl (by simp) | exact RdL_h0 rfl (by simp) | exact RdL_nil | exact RdL_emp) (by first | assumption | omega | (simp; omega) | (simp; done)) (by first | assumption | omega | (simp; omega) | (simp; done)) (by first | assumption | omega | (simp; omega) | (simp; done))))
    | (clear hK K)
    | fail)
  all_goals (refine EndA_cut hcl (by first | exact Or.inr rfl | exact Or.inl rfl) (by simp only [Try.results73, resA, aresL, go_sem, reduceIte, reduceCtorEq, Nat.reduceAdd, Nat.reduceMul, Nat.reduceSub, Nat.reduceLeDiff, Nat.lt_irrefl, Nat.reduceLT, Nat.reduceEqDiff, Nat.reduceBEq, Int.reduceLE, Int.reduceLT, Int.reduceToNat, w64, eq_self] <;> rfl) (by simp only [renT, renL, List.map_cons, List.map_nil, renB_keep hbx, renB_keep hby, renB_keep hbz] <;> rfl) ?_)
  all_goals exact ⟨rfl, rfl⟩
theorem l05GiveF_c (n c : Int) (x y z : LV) (vs : List (Option Nat)) (gs ss : List Int) (H : Hp) (h : RdL H x (vs.map (LV.flt .f32))) (h1 : RdL H y (gs.map (LV.int .i64))) (h2 : RdL H z (ss.map (LV.int .i64))) (hn : vs.length ≤ 1048576) (hn1 : gs.length ≤ 1048576) (hn2 : ss.length ≤ 1048576) (e : summB n c vs gs ss = false) :
    FunH Try.prog 73 [.agg [.int .i64 n, .int .i64 c, x, y, z]] H fun r' H' => r' = .tup [.agg [.int .i64 0, .int .i64 0, .nils, .nils, .nils], .bool false] ∧ H' = H := by
  (refine FunH_body tyOk Try.func73 rfl (by kernel_rfl) Try.ntmps73 (fun hcl hbd => ?_); simp only [List.length_cons, List.length_nil, Nat.reduceAdd, Nat.reduceSub, List.replicate, List.cons_append, List.nil_append])
  repeat' (first
    | ((with_reducible refine hK _ _ ?_); clear hK K)
    | ((first | (with_reducible show AOp _ _ _ _ _ _ _)); simp (disch := first | ((with_reducible show liveO _ _ _ = true); first | assumption | (exact liveO_setS (by assumption)) | (exact PtL.live (by assumption)) | (exact PtL.liveA (by assumption) _) | (simp only [go_sem]; done)) | omega | assumption | rfl | (simp only [go_sem]; first | done | omega)) only [go_sem, reduceIte, reduceCtorEq, Nat.reduceAdd, Nat.reduceMul, Nat.reduceSub, Nat.reduceLeDiff, Nat.lt_irrefl, Nat.reduceLT, Nat.reduceEqDiff, Nat.reduceBEq, Int.reduceLE, Int.reduceLT, Int.reduceToNat, w64, eq_self, h.isCell, h1.isCell, h2.isCell, e])
    | (with_reducible refine AW_seq (fun K hK => ?_))
    | (with_reducible refine AW_region tyOk ?_)
    | (with_reducible refine AOps_cons (fun K hK => ?_))
    | ((with_reducible refine AOps_nil ?_); try simp only [thenA, blockA, if_true, if_false, reduceIte, Nat.reduceEqDiff, reduceCtorEq])
    | (with_reducible refine AW_block ?_)
    | ((first | (with_reducible refine AW_ret ?_) | (with_reducible refine AW_skip ?_) | (with_reducible refine AW_exit ?_)); try simp only [thenA, blockA, if_true, if_false, reduceIte, Nat.reduceEqDiff, reduceCtorEq])
    | ((with_reducible show AW _ _ (.cond _ _ _) _ _ _); refine AW_cond rfl (fun hg => ?_) (fun hg => ?_) <;> first | (exfalso; simp only [reduceCtorEq] at hg; done) | ((try simp only [Bool.not_eq_true', Bool.not_eq_false', decide_eq_true_eq, decide_eq_false_iff_not] at hg); try (exfalso; omega)))
    | ((with_reducible show _ ∧ _); refine And.intro (fun hg => ?_) (fun hg => ?_) <;> (try simp only [Bool.not_eq_true', Bool.not_eq_false'] at hg) <;> simp only [hg] <;> (try simp only [decide_eq_true_eq, decide_eq_false_iff_not] at hg) <;> (try (exfalso; omega)))
    | ((with_reducible apply FunH_intro); (first | exact l05Is_c _ _ _ _ _ _ _ _ _ _ _ (by first | assumption | exact PtL.app (by assumption) _ | exact PtL_h0 rfl | exact PtL_hj rfl) (by first | assumption | exact RdL.app (by assumption) _ | exact RdL_hj rfl (by simp) | exact RdL_h0 rfl (by simp) | exact RdL_nil | exact RdL_emp) (by first | assumption | exact RdL.app (by assumption) _ | exact RdL_hj rfl (by simp) | exact RdL_h0 rfl (by simp) | exact RdL_nil | exact RdL_emp) (by first | assumption | exact RdL.app (by assumption) _ | exact RdL_hj rfl (by simp) | exact RdL_h0 rfl (by simp) | exact RdL_nil | exact RdL_emp) (by first | assumption | omega | (simp; omega) | (simp; done)) (by first | assumption | omega | (simp; omega) | (simp; done)) (by first | assumption | omega | (simp; omega) | (simp; done))))
    | (clear hK K)
    | fail)
  all_goals (first | refine EndA_cut hcl (by first | exact Or.inr rfl | exact Or.inl rfl) (by simp only [Try.results73, resA, aresL, go_sem, reduceIte, reduceCtorEq, Nat.reduceAdd, Nat.reduceMul, Nat.reduceSub, Nat.reduceLeDiff, Nat.lt_irrefl, Nat.reduceLT, Nat.reduceEqDiff, Nat.reduceBEq, Int.reduceLE, Int.reduceLT, Int.reduceToNat, w64, eq_self] <;> rfl) rfl ?_ | refine EndA_same (by first | exact Or.inr rfl | exact Or.inl rfl) (by simp only [Try.results73, resA, aresL, go_sem, reduceIte, reduceCtorEq, Nat.reduceAdd, Nat.reduceMul, Nat.reduceSub, Nat.reduceLeDiff, Nat.lt_irrefl, Nat.reduceLT, Nat.reduceEqDiff, Nat.reduceBEq, Int.reduceLE, Int.reduceLT, Int.reduceToNat, w64, eq_self] <;> rfl) ?_)
  all_goals exact ⟨rfl, rfl⟩
end Go.Proofs.Ytkkcfbpgcekmjaa
