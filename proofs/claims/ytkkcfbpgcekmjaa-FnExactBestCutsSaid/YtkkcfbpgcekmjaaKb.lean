/- BestCuts in the abstract machine: the program's side. -/
import Derived.Test.YtkkcfbpgcekmjaaKa
namespace Go.Proofs.Ytkkcfbpgcekmjaa
open Go.RowKit
set_option linter.unusedSimpArgs false
set_option linter.unusedVariables false
set_option maxRecDepth 100000

theorem amake_s {te : TE} {el n : Nat} {i : Int} {H : Hp} (hi : i = (n : Nat)) (h2 : n ≤ 17592186044416) (h3 : te.by_ * n ≤ 140737488355328) : amake te el H i i = some (.sl H.length 0 0 n none, H ++ [⟨0, false, el, te.sz, zeros te.zs n⟩]) := by
  subst hi; exact amake_ok (Nat.le_refl _) h2 h3
/-- A row of errors. -/
def eG (xs : List (Option Nat)) (i k : Nat) : Option Nat := if i < k then eK xs i k else some 0
def eCell (a n : Nat) (j : Nat) : LV := .sl (a + (j + 1)) 0 0 n none
def lCell (b n : Nat) (j : Nat) : LV := .sl (b + (2 * j + 2)) 0 0 n none
def fCell (b n : Nat) (j : Nat) : LV := .sl (b + (2 * j + 3)) 0 0 n none
theorem idx_at0 {B : Hp} {id v el n : Nat} {ro : Bool} {cs : List LV} (h : B[id]? = some ⟨v, ro, el, 1, cs⟩) (hn : n ≤ cs.length) {i : Int} (h0 : 0 ≤ i) (h1 : i < n) : idxP B 1 i (.sl id v 0 n none) = some (.ptr id v i.toNat) := by
  have := idx_at h hn [] h0 h1; rwa [List.append_nil] at this
theorem get_at0 {B : Hp} {id v el : Nat} {ro : Bool} {cs : List LV} (h : B[id]? = some ⟨v, ro, el, 1, cs⟩) (k : Nat) : hget B id v k = cs[k]? := by
  have := get_at h [] k; rwa [List.append_nil] at this
theorem slice_seg {te : TE} {lv : LV} {xs : List (Option Nat)} {H : Hp} (h : RdL H lv (xs.map (LV.flt .f32))) (hs : te.sz = 1) {i k : Nat} (hi : i ≤ k) (hk : k ≤ xs.length) :
    asliceS te H lv (some (.int .i64 (i : Nat))) (some (.int .i64 (k : Nat))) none = some (subOf lv i (k - i)) := by
  rw [h.slice hs (by omega) (by omega) (by simp; omega)]
  simp
/-! The row of the least sums and that of the places, as they are filled. -/
def gL (xs : List (Option Nat)) (q k : Nat) : Option Nat := (bcAt (bcRow xs q) xs (q + 1) k).1
def gF (xs : List (Option Nat)) (q k : Nat) : Int := (((bcAt (bcRow xs q) xs (q + 1) k).2 : Nat) : Int)
def bX (xs : List (Option Nat)) (q m k t : Nat) : List LV := ((upd (gL xs q) (some 0) m k).map (LV.flt .f32)).set k (.flt .f32 (bcN (bcRow xs q) xs (q + 1) k t).1)
def bY (xs : List (Option Nat)) (q m k t : Nat) : List LV := ((upd (gF xs q) 0 m k).map (LV.int .i64)).set k (.int .i64 (((bcN (bcRow xs q) xs (q + 1) k t).2 : Nat) : Int))
section
variable {xs : List (Option Nat)} {q m k t : Nat}
theorem bX_len : (bX xs q m k t).length = m := by unfold bX; rw [List.length_set, List.length_map, upd_len]
theorem bY_len : (bY xs q m k t).length = m := by unfold bY; rw [List.length_set, List.length_map, upd_len]
theorem bX_at (h : k < m) : (bX xs q m k t)[k]? = some (.flt .f32 (bcN (bcRow xs q) xs (q + 1) k t).1) := by unfold bX; rw [List.getElem?_set_self (by rw [List.length_map, upd_len]; exact h)]
theorem bX_set {v : Option Nat} {i : Nat} (h : bcN (bcRow xs q) xs (q + 1) k (t + 1) = (v, i)) : (bX xs q m k t).set k (.flt .f32 v) = bX xs q m k (t + 1) := by unfold bX; rw [List.set_set, h]
theorem bY_set {v : Option Nat} {i : Nat} (h : bcN (bcRow xs q) xs (q + 1) k (t + 1) = (v, i)) : (bY xs q m k t).set k (.int .i64 (i : Nat)) = bY xs q m k (t + 1) := by unfold bY; rw [List.set_set, h]
theorem bX_same (h : bcN (bcRow xs q) xs (q + 1) k (t + 1) = bcN (bcRow xs q) xs (q + 1) k t) : bX xs q m k t = bX xs q m k (t + 1) := by unfold bX; rw [h]
theorem bY_same (h : bcN (bcRow xs q) xs (q + 1) k (t + 1) = bcN (bcRow xs q) xs (q + 1) k t) : bY xs q m k t = bY xs q m k (t + 1) := by unfold bY; rw [h]
theorem bX_zero (h : k < m) : bX xs q m k 0 = (upd (gL xs q) (some 0) m k).map (LV.flt .f32) := by unfold bX; rw [← List.map_set]; show List.map _ (List.set _ _ (some 0)) = _; rw [upd_setz h]
theorem bY_zero (h : k < m) : bY xs q m k 0 = (upd (gF xs q) 0 m k).map (LV.int .i64) := by unfold bY; rw [← List.map_set]; show List.map _ (List.set _ _ 0) = _; rw [upd_setz h]
theorem bX_end (h : k < m) (h1 : q + 1 ≤ k) (h2 : q ≠ 0) : bX xs q m k (k - q) = (upd (gL xs q) (some 0) m (k + 1)).map (LV.flt .f32) := by
  unfold bX; rw [← List.map_set, ← upd_set h]
  have : gL xs q k = (bcN (bcRow xs q) xs (q + 1) k (k - q)).1 := by unfold gL bcAt; rw [if_neg (by omega), if_neg (by omega)]; rfl
  rw [this]
theorem bY_end (h : k < m) (h1 : q + 1 ≤ k) (h2 : q ≠ 0) : bY xs q m k (k - q) = (upd (gF xs q) 0 m (k + 1)).map (LV.int .i64) := by
  unfold bY; rw [← List.map_set, ← upd_set h]
  have : gF xs q k = (((bcN (bcRow xs q) xs (q + 1) k (k - q)).2 : Nat) : Int) := by unfold gF bcAt; rw [if_neg (by omega), if_neg (by omega)]; rfl
  rw [this]
theorem gL_low (h : k < q + 1) : gL xs q k = some 0 := by unfold gL bcAt; rw [if_pos h]
theorem gF_low (h : k < q + 1) : gF xs q k = 0 := by unfold gF bcAt; rw [if_pos h]; rfl
theorem gL_one (h0 : q = 0) (h : 1 ≤ k) : gL xs q k = eK xs 0 k := by subst h0; unfold gL bcAt; rw [if_neg (by omega), if_pos rfl]
theorem gF_one (h0 : q = 0) (h : 1 ≤ k) : gF xs q k = 0 := by subst h0; unfold gF bcAt; rw [if_neg (by omega), if_pos rfl]; rfl
theorem bcRow_upd (h : xs.length + 1 = m) : (upd (gL xs q) (some 0) m m) = bcRow xs (q + 1) := by rw [upd_full (Nat.le_refl _), ← h]; rfl
theorem bcFrom_upd (h : xs.length + 1 = m) : (upd (gF xs q) 0 m m) = bcFrom xs (q + 1) := by rw [upd_full (Nat.le_refl _), ← h]; rfl
end
set_option maxHeartbeats 8000000 in
theorem iBestCuts_c (x : LV) (xs : List (Option Nat)) (parts : Int) (H : Hp) (h : RdL H x (xs.map (LV.flt .f32))) (hn : xs.length ≤ 1048576) :
    FunH Try.prog 46 [x, .int .i64 parts] H fun r H' => r = .tup [.sl H.length 0 0 (bcL xs parts).length none, .flt .f32 (bcM xs parts), .bool (bcOk xs parts)] ∧ H' = H ++ [⟨0, false, 2, 1, (bcL xs parts).map (LV.int .i64)⟩] := by
  unfold bcL bcM
  cases e1 : partsB xs parts
  · have e : bcOk xs parts = false := by unfold bcOk; rw [e1]; rfl
    simp only [e, Bool.false_eq_true, if_false]
    (refine FunH_body tyOk Try.func46 rfl (by kernel_rfl) Try.ntmps46 (fun hcl hbd => ?_); simp only [List.length_cons, List.length_nil, Nat.reduceAdd, Nat.reduceSub, List.replicate, List.cons_append, List.nil_append])
    repeat' (first
      | ((with_reducible refine hK _ _ ?_); clear hK K)
      | ((first | (with_reducible show AOp _ _ _ _ _ _ _)); simp (disch := first | ((with_reducible show liveO _ _ _ = true); first | assumption | (exact (liveO_l0 hbl).trans rfl) | (exact (liveO_l0 hq3).trans rfl) | (exact (liveO_l hq3).trans rfl) | (exact liveO_setS (by assumption)) | (exact PtL.live (by assumption)) | (exact PtL.liveA (by assumption) _) | (simp only [go_sem]; done)) | omega | assumption | rfl | (simp only [go_sem]; first | done | omega)) only [go_sem, reduceIte, reduceCtorEq, Nat.reduceAdd, Nat.reduceMul, Nat.reduceSub, Nat.reduceLeDiff, Nat.lt_irrefl, Nat.reduceLT, Nat.reduceEqDiff, Nat.reduceBEq, Int.reduceLE, Int.reduceLT, Int.reduceToNat, w64, eq_self, h.lenm, e1])
      | (with_reducible refine AW_seq (fun K hK => ?_))
      | (with_reducible refine AW_region tyOk ?_)
      | (with_reducible refine AOps_cons (fun K hK => ?_))
      | ((with_reducible refine AOps_nil ?_); try simp only [thenA, blockA, if_true, if_false, reduceIte, Nat.reduceEqDiff, reduceCtorEq])
      | (with_reducible refine AW_block ?_)
      | ((first | (with_reducible refine AW_ret ?_) | (with_reducible refine AW_skip ?_) | (with_reducible refine AW_exit ?_)); try simp only [thenA, blockA, if_true, if_false, reduceIte, Nat.reduceEqDiff, reduceCtorEq])
      | ((with_reducible show AW _ _ (.cond _ _ _) _ _ _); refine AW_cond rfl (fun hg => ?_) (fun hg => ?_) <;> first | (exfalso; simp only [reduceCtorEq] at hg; done) | ((try simp only [Bool.not_eq_true', Bool.not_eq_false', decide_eq_true_eq, decide_eq_false_iff_not] at hg); try (exfalso; omega)))
      | ((with_reducible show _ ∧ _); refine And.intro (fun hg => ?_) (fun hg => ?_) <;> (try simp only [Bool.not_eq_true', Bool.not_eq_false'] at hg) <;> simp only [hg] <;> (try simp only [decide_eq_true_eq, decide_eq_false_iff_not] at hg) <;> (try (exfalso; omega)))
      | ((with_reducible apply FunH_intro); (first | exact IsFinite_c _ _ | exact areParts_c _ _ _ _ (by first | assumption | exact RdL.app (by assumption) _ | exact RdL_hj rfl (by simp) | exact RdL_h0 rfl (by simp) | exact RdL_nil | exact RdL_emp) (by first | assumption | omega | (simp; omega) | (simp; done)) | exact cutError_c _ _ _ (by first | assumption | exact RdL.app (by assumption) _ | exact RdL_hj rfl (by simp) | exact RdL_h0 rfl (by simp) | exact RdL_nil | exact RdL_emp) (by first | assumption | omega | (simp; omega) | (simp; done))))
      | (clear hK K)
      | fail)
    first | (refine EndA_rows0 [none] hcl (by first | exact Or.inr rfl | exact Or.inl rfl) (by simp only [Try.results46, resA, aresL, go_sem, reduceIte, reduceCtorEq, Nat.reduceAdd, Nat.reduceMul, Nat.reduceSub, Nat.reduceLeDiff, Nat.lt_irrefl, Nat.reduceLT, Nat.reduceEqDiff, Nat.reduceBEq, Int.reduceLE, Int.reduceLT, Int.reduceToNat, w64, eq_self] <;> rfl) (by decide) ?_ ?_ ⟨rfl, rfl⟩) | (refine EndA_rows [none] hcl (by first | exact Or.inr rfl | exact Or.inl rfl) (by simp only [Try.results46, resA, aresL, go_sem, reduceIte, reduceCtorEq, Nat.reduceAdd, Nat.reduceMul, Nat.reduceSub, Nat.reduceLeDiff, Nat.lt_irrefl, Nat.reduceLT, Nat.reduceEqDiff, Nat.reduceBEq, Int.reduceLE, Int.reduceLT, Int.reduceToNat, w64, eq_self] <;> rfl) (by decide) ?_ ?_ ⟨rfl, rfl⟩)
    rotate_left
    · repeat' (first | exact trivial | apply TdT.tup | apply TdT.one | apply TdL.agg | apply TdL.cell | exact TdB.old _ trivial rfl | exact TdB.virt 0 rfl | exact TdB.junk _ | exact TdB.old _ (by assumption) (by assumption) | refine And.intro ?_ ?_)
    all_goals (repeat' (first | (with_reducible exact RowOk.none) | ((with_reducible apply RowOk.emp); exact rfl) | ((with_reducible apply RowOk.eq); (exact rfl); rotate_left; (first | (with_reducible exact scal_int _ _) | (with_reducible exact scal_flt _ _) | (with_reducible exact scal_bool _) | (intro c hc; cases hc; done) | (simp [LV.isCell, bnd]; done))) | exact trivial | refine And.intro ?_ ?_))
    all_goals (try rfl)
  by_cases h64 : 64 < xs.length
  · have e : bcOk xs parts = false := by unfold bcOk; rw [decide_eq_false (by omega)]; simp
    simp only [e, Bool.false_eq_true, if_false]
    have h64' : (64 : Int) < (xs.length : Nat) := by omega
    (refine FunH_body tyOk Try.func46 rfl (by kernel_rfl) Try.ntmps46 (fun hcl hbd => ?_); simp only [List.length_cons, List.length_nil, Nat.reduceAdd, Nat.reduceSub, List.replicate, List.cons_append, List.nil_append])
    repeat' (first
      | ((with_reducible refine hK _ _ ?_); clear hK K)
      | ((first | (with_reducible show AOp _ _ _ _ _ _ _)); simp (disch := first | ((with_reducible show liveO _ _ _ = true); first | assumption | (exact (liveO_l0 hbl).trans rfl) | (exact (liveO_l0 hq3).trans rfl) | (exact (liveO_l hq3).trans rfl) | (exact liveO_setS (by assumption)) | (exact PtL.live (by assumption)) | (exact PtL.liveA (by assumption) _) | (simp only [go_sem]; done)) | omega | assumption | rfl | (simp only [go_sem]; first | done | omega)) only [go_sem, reduceIte, reduceCtorEq, Nat.reduceAdd, Nat.reduceMul, Nat.reduceSub, Nat.reduceLeDiff, Nat.lt_irrefl, Nat.reduceLT, Nat.reduceEqDiff, Nat.reduceBEq, Int.reduceLE, Int.reduceLT, Int.reduceToNat, w64, eq_self, h.lenm, e1, h64'])
      | (with_reducible refine AW_seq (fun K hK => ?_))
      | (with_reducible refine AW_region tyOk ?_)
      | (with_reducible refine AOps_cons (fun K hK => ?_))
      | ((with_reducible refine AOps_nil ?_); try simp only [thenA, blockA, if_true, if_false, reduceIte, Nat.reduceEqDiff, reduceCtorEq])
      | (with_reducible refine AW_block ?_)
      | ((first | (with_reducible refine AW_ret ?_) | (with_reducible refine AW_skip ?_) | (with_reducible refine AW_exit ?_)); try simp only [thenA, blockA, if_true, if_false, reduceIte, Nat.reduceEqDiff, reduceCtorEq])
      | ((with_reducible show AW _ _ (.cond _ _ _) _ _ _); refine AW_cond rfl (fun hg => ?_) (fun hg => ?_) <;> first | (exfalso; simp only [reduceCtorEq] at hg; done) | ((try simp only [Bool.not_eq_true', Bool.not_eq_false', decide_eq_true_eq, decide_eq_false_iff_not] at hg); try (exfalso; omega)))
      | ((with_reducible show _ ∧ _); refine And.intro (fun hg => ?_) (fun hg => ?_) <;> (try simp only [Bool.not_eq_true', Bool.not_eq_false'] at hg) <;> simp only [hg] <;> (try simp only [decide_eq_true_eq, decide_eq_false_iff_not] at hg) <;> (try (exfalso; omega)))
      | ((with_reducible apply FunH_intro); (first | exact IsFinite_c _ _ | exact areParts_c _ _ _ _ (by first | assumption | exact RdL.app (by assumption) _ | exact RdL_hj rfl (by simp) | exact RdL_h0 rfl (by simp) | exact RdL_nil | exact RdL_emp) (by first | assumption | omega | (simp; omega) | (simp; done)) | exact cutError_c _ _ _ (by first | assumption | exact RdL.app (by assumption) _ | exact RdL_hj rfl (by simp) | exact RdL_h0 rfl (by simp) | exact RdL_nil | exact RdL_emp) (by first | assumption | omega | (simp; omega) | (simp; done))))
      | (clear hK K)
      | fail)
    first | (refine EndA_rows0 [none] hcl (by first | exact Or.inr rfl | exact Or.inl rfl) (by simp only [Try.results46, resA, aresL, go_sem, reduceIte, reduceCtorEq, Nat.reduceAdd, Nat.reduceMul, Nat.reduceSub, Nat.reduceLeDiff, Nat.lt_irrefl, Nat.reduceLT, Nat.reduceEqDiff, Nat.reduceBEq, Int.reduceLE, Int.reduceLT, Int.reduceToNat, w64, eq_self] <;> rfl) (by decide) ?_ ?_ ⟨rfl, rfl⟩) | (refine EndA_rows [none] hcl (by first | exact Or.inr rfl | exact Or.inl rfl) (by simp only [Try.results46, resA, aresL, go_sem, reduceIte, reduceCtorEq, Nat.reduceAdd, Nat.reduceMul, Nat.reduceSub, Nat.reduceLeDiff, Nat.lt_irrefl, Nat.reduceLT, Nat.reduceEqDiff, Nat.reduceBEq, Int.reduceLE, Int.reduceLT, Int.reduceToNat, w64, eq_self] <;> rfl) (by decide) ?_ ?_ ⟨rfl, rfl⟩)
    rotate_left
    · repeat' (first | exact trivial | apply TdT.tup | apply TdT.one | apply TdL.agg | apply TdL.cell | exact TdB.old _ trivial rfl | exact TdB.virt 0 rfl | exact TdB.junk _ | exact TdB.old _ (by assumption) (by assumption) | refine And.intro ?_ ?_)
    all_goals (repeat' (first | (with_reducible exact RowOk.none) | ((with_reducible apply RowOk.emp); exact rfl) | ((with_reducible apply RowOk.eq); (exact rfl); rotate_left; (first | (with_reducible exact scal_int _ _) | (with_reducible exact scal_flt _ _) | (with_reducible exact scal_bool _) | (intro c hc; cases hc; done) | (simp [LV.isCell, bnd]; done))) | exact trivial | refine And.intro ?_ ?_))
    all_goals (try rfl)
  obtain ⟨p1, p2, p3, p4⟩ := partsB_iff e1
  obtain ⟨P, rfl⟩ : ∃ P : Nat, parts = (P : Nat) := ⟨parts.toNat, by omega⟩
  have e : bcOk xs (P : Nat) = finO (ix (bcRow xs P) xs.length) := by unfold bcOk; rw [e1, decide_eq_true (by omega)]; simp
  rw [e]
  rw [Int.toNat_natCast]
  clear e
  obtain ⟨n, hnn⟩ : ∃ n, xs.length = n := ⟨_, rfl⟩
  rw [hnn]
  rw [hnn] at h64 p1 p2 p4 hn
  obtain ⟨m, hm⟩ : ∃ m, n + 1 = m := ⟨_, rfl⟩
  obtain ⟨Q, hQ⟩ : ∃ Q, P + 1 = Q := ⟨_, rfl⟩
  have mkN : ∀ (te : TE) (el : Nat) (L : Hp), te.by_ * m ≤ 140737488355328 → amake te el L ((n : Int) + 1) ((n : Int) + 1) = some (.sl L.length 0 0 m none, L ++ [⟨0, false, el, te.sz, zeros te.zs m⟩]) := fun te el L h3 => amake_s (by omega) (by omega) h3
  have mkP : ∀ (te : TE) (el : Nat) (L : Hp), te.by_ * Q ≤ 140737488355328 → amake te el L ((P : Int) + 1) ((P : Int) + 1) = some (.sl L.length 0 0 Q none, L ++ [⟨0, false, el, te.sz, zeros te.zs Q⟩]) := fun te el L h3 => amake_s (by omega) (by omega) h3
  have mkO : ∀ (te : TE) (el : Nat) (L : Hp), te.by_ * (P - 1) ≤ 140737488355328 → amake te el L ((P : Int) - 1) ((P : Int) - 1) = some (.sl L.length 0 0 (P - 1) none, L ++ [⟨0, false, el, te.sz, zeros te.zs (P - 1)⟩]) := fun te el L h3 => amake_s (by omega) (by omega) h3
  (refine FunH_body tyOk Try.func46 rfl (by kernel_rfl) Try.ntmps46 (fun hcl hbd => ?_); simp only [List.length_cons, List.length_nil, Nat.reduceAdd, Nat.reduceSub, List.replicate, List.cons_append, List.nil_append])
  repeat' (first
    | ((with_reducible refine hK _ _ ?_); clear hK K)
    | ((first | (with_reducible show AOp _ _ _ _ _ _ _)); simp (disch := first | ((with_reducible show liveO _ _ _ = true); first | assumption | (exact (liveO_l0 hbl).trans rfl) | (exact (liveO_l0 hq3).trans rfl) | (exact (liveO_l hq3).trans rfl) | (exact liveO_setS (by assumption)) | (exact PtL.live (by assumption)) | (exact PtL.liveA (by assumption) _) | (simp only [go_sem]; done)) | omega | assumption | rfl | (simp only [go_sem]; first | done | omega)) only [go_sem, reduceIte, reduceCtorEq, Nat.reduceAdd, Nat.reduceMul, Nat.reduceSub, Nat.reduceLeDiff, Nat.lt_irrefl, Nat.reduceLT, Nat.reduceEqDiff, Nat.reduceBEq, Int.reduceLE, Int.reduceLT, Int.reduceToNat, w64, eq_self, h.lenm, e1, hnn, mkN])
    | (with_reducible refine AW_seq (fun K hK => ?_))
    | (with_reducible refine AW_region tyOk ?_)
    | (with_reducible refine AOps_cons (fun K hK => ?_))
    | ((with_reducible refine AOps_nil ?_); try simp only [thenA, blockA, if_true, if_false, reduceIte, Nat.reduceEqDiff, reduceCtorEq])
    | (with_reducible refine AW_block ?_)
    | ((first | (with_reducible refine AW_ret ?_) | (with_reducible refine AW_skip ?_) | (with_reducible refine AW_exit ?_)); try simp only [thenA, blockA, if_true, if_false, reduceIte, Nat.reduceEqDiff, reduceCtorEq])
    | ((with_reducible show AW _ _ (.cond _ _ _) _ _ _); refine AW_cond rfl (fun hg => ?_) (fun hg => ?_) <;> first | (exfalso; simp only [reduceCtorEq] at hg; done) | ((try simp only [Bool.not_eq_true', Bool.not_eq_false', decide_eq_true_eq, decide_eq_false_iff_not] at hg); try (exfalso; omega)))
    | ((with_reducible show _ ∧ _); refine And.intro (fun hg => ?_) (fun hg => ?_) <;> (try simp only [Bool.not_eq_true', Bool.not_eq_false'] at hg) <;> simp only [hg] <;> (try simp only [decide_eq_true_eq, decide_eq_false_iff_not] at hg) <;> (try (exfalso; omega)))
    | ((with_reducible apply FunH_intro); (first | exact IsFinite_c _ _ | exact areParts_c _ _ _ _ (by first | assumption | exact RdL.app (by assumption) _ | exact RdL_hj rfl (by simp) | exact RdL_h0 rfl (by simp) | exact RdL_nil | exact RdL_emp) (by first | assumption | omega | (simp; omega) | (simp; done)) | exact cutError_c _ _ _ (by first | assumption | exact RdL.app (by assumption) _ | exact RdL_hj rfl (by simp) | exact RdL_h0 rfl (by simp) | exact RdL_nil | exact RdL_emp) (by first | assumption | omega | (simp; omega) | (simp; done))))
    | (clear hK K)
    | fail)
  refine AW_loopV [9, 10, 36, 37, 38, 39, 40, 41, 42, 43, 44, 45, 46, 47, 48, 49, 50, 51, 52, 53, 54, 55, 56, 57, 58, 59, 60, 61, 62, 63] (fun p : Nat × Hp => [(36, .int .i64 (p.1 : Nat))]) (fun p => H ++ (⟨0, false, 22, 1, upd (eCell H.length m) .nils m p.1⟩ :: p.2))
    (fun p => p.1 ≤ m ∧ p.2.length = p.1 ∧ ∀ j, j < p.1 → p.2[j]? = some ⟨0, false, 37, 1, (upd (eG xs j) (some 0) m m).map (LV.flt .f32)⟩) (fun p => m - p.1) (0, []) ⟨Nat.zero_le _, rfl, fun j hj => absurd hj (Nat.not_lt_zero _)⟩ ?_ ?_ ?_
  · simp only [junkAll, setAll, List.foldl_cons, List.foldl_nil, List.set_cons_succ, List.set_cons_zero, JL, true_or, or_true, and_true, true_and, reduceCtorEq, false_or, or_false, LV.int.injEq, LV.bool.injEq, LV.flt.injEq, LV.sl.injEq, LV.ptr.injEq, eq_self, Int.natCast_add, Int.natCast_one, Int.natCast_zero, Int.ofNat_zero]
  · simp only [upd_zero]
  intro ⟨k, G⟩ ⟨hk, hGl, hG⟩ K hK
  simp only at hk hGl hG
  simp only [junkAll, setAll, List.foldl_cons, List.foldl_nil, List.set_cons_succ, List.set_cons_zero]
  by_cases hkl : k < m
  · have hul : (upd (eCell H.length m) LV.nils m k).length = m := upd_len
    have hus : (upd (eCell H.length m) LV.nils m k).set k (.sl (H.length + (k + 1)) 0 0 m none) = upd (eCell H.length m) LV.nils m (k + 1) := upd_set hkl
    repeat' (first
      | ((with_reducible refine hK _ _ ?_); clear hK K)
      | ((first | (with_reducible show AOp _ _ _ _ _ _ _)); simp (disch := first | ((with_reducible show liveO _ _ _ = true); first | assumption | (exact (liveO_l0 hbl).trans rfl) | (exact (liveO_l0 hq3).trans rfl) | (exact (liveO_l hq3).trans rfl) | (exact liveO_setS (by assumption)) | (exact PtL.live (by assumption)) | (exact PtL.liveA (by assumption) _) | (simp only [go_sem]; done)) | omega | assumption | rfl | (simp only [go_sem]; first | done | omega)) only [go_sem, reduceIte, reduceCtorEq, Nat.reduceAdd, Nat.reduceMul, Nat.reduceSub, Nat.reduceLeDiff, Nat.lt_irrefl, Nat.reduceLT, Nat.reduceEqDiff, Nat.reduceBEq, Int.reduceLE, Int.reduceLT, Int.reduceToNat, w64, eq_self, h.lenm, mkN, hGl, hus, List.length_append, List.length_cons, Nat.add_assoc])
      | (with_reducible refine AW_seq (fun K hK => ?_))
      | (with_reducible refine AW_region tyOk ?_)
      | (with_reducible refine AOps_cons (fun K hK => ?_))
      | ((with_reducible refine AOps_nil ?_); try simp only [thenA, blockA, if_true, if_false, reduceIte, Nat.reduceEqDiff, reduceCtorEq])
      | (with_reducible refine AW_block ?_)
      | ((first | (with_reducible refine AW_ret ?_) | (with_reducible refine AW_skip ?_) | (with_reducible refine AW_exit ?_)); try simp only [thenA, blockA, if_true, if_false, reduceIte, Nat.reduceEqDiff, reduceCtorEq])
      | ((with_reducible show AW _ _ (.cond _ _ _) _ _ _); refine AW_cond rfl (fun hg => ?_) (fun hg => ?_) <;> first | (exfalso; simp only [reduceCtorEq] at hg; done) | ((try simp only [Bool.not_eq_true', Bool.not_eq_false', decide_eq_true_eq, decide_eq_false_iff_not] at hg); try (exfalso; omega)))
      | ((with_reducible show _ ∧ _); refine And.intro (fun hg => ?_) (fun hg => ?_) <;> (try simp only [Bool.not_eq_true', Bool.not_eq_false'] at hg) <;> simp only [hg] <;> (try simp only [decide_eq_true_eq, decide_eq_false_iff_not] at hg) <;> (try (exfalso; omega)))
      | ((with_reducible apply FunH_intro); (first | exact IsFinite_c _ _ | exact areParts_c _ _ _ _ (by first | assumption | exact RdL.app (by assumption) _ | exact RdL_hj rfl (by simp) | exact RdL_h0 rfl (by simp) | exact RdL_nil | exact RdL_emp) (by first | assumption | omega | (simp; omega) | (simp; done)) | exact cutError_c _ _ _ (by first | assumption | exact RdL.app (by assumption) _ | exact RdL_hj rfl (by simp) | exact RdL_h0 rfl (by simp) | exact RdL_nil | exact RdL_emp) (by first | assumption | omega | (simp; omega) | (simp; done))))
      | (clear hK K)
      | fail)
    obtain ⟨B, hB⟩ : ∃ B, B = H ++ (⟨0, false, 22, 1, upd (eCell H.length m) LV.nils m (k + 1)⟩ :: G) := ⟨_, rfl⟩
    have hbl : B.length = H.length + (k + 1) := by rw [hB]; simp [hGl]
    have hxB : RdL B x (xs.map (LV.flt .f32)) := by rw [hB]; exact h.app _
    have hE : B[H.length]? = some ⟨0, false, 22, 1, upd (eCell H.length m) LV.nils m (k + 1)⟩ := by rw [hB]; exact (hp_get0 _ _).trans rfl
    have hEk : (upd (eCell H.length m) LV.nils m (k + 1))[k]? = some (.sl (H.length + (k + 1)) 0 0 m none) := by rw [upd_get hkl, if_pos (by omega)]; rfl
    have iE := fun L => idx_at hE (n := m) (by rw [upd_len]; exact Nat.le_refl _) L (i := ((k : Nat) : Int)) (by omega) (by omega)
    have gE := fun L => (get_at hE L k).trans hEk
    rw [Int.toNat_natCast] at iE
    have hlow : ∀ j, j < k + 1 → eG xs k j = some 0 := fun j hj => if_neg (by omega)
    refine AW_loopV [10, 47, 48, 49, 50, 51, 52, 53, 54, 55, 56, 57, 58, 59, 60, 61, 62] (fun j : Nat => [(10, .int .i64 (j : Nat))]) (fun j => B ++ [⟨0, false, 37, 1, (upd (eG xs k) (some 0) m j).map (LV.flt .f32)⟩]) (fun j => k + 1 ≤ j ∧ j ≤ m) (fun j => m - j) (k + 1) ⟨Nat.le_refl _, hkl⟩ ?_ ?_ ?_
    · simp only [junkAll, setAll, List.foldl_cons, List.foldl_nil, List.set_cons_succ, List.set_cons_zero, JL, true_or, or_true, and_true, true_and, reduceCtorEq, false_or, or_false, LV.int.injEq, LV.bool.injEq, LV.flt.injEq, LV.sl.injEq, LV.ptr.injEq, eq_self, Int.natCast_add, Int.natCast_one, Int.natCast_zero, Int.ofNat_zero]
    · rw [hB, upd_low hlow, upd_zero]; simp
    · intro j ⟨hj0, hj⟩ K hK
      simp only [junkAll, setAll, List.foldl_cons, List.foldl_nil, List.set_cons_succ, List.set_cons_zero]
      have hul2 : (upd (eG xs k) (some 0) m j).length = m := upd_len
      have hul3 : ((upd (eG xs k) (some 0) m j).map (LV.flt .f32)).length = m := by rw [List.length_map]; exact upd_len
      by_cases hjl : j < m
      · have hsl := fun (te : TE) (hs : te.sz = 1) (L : Hp) => slice_seg (te := te) (hxB.app L) hs (i := k) (k := j) (by omega) (by omega)
        have hsb : RdL B (subOf x k (j - k)) ((seg xs k j).map (LV.flt .f32)) := by
          have := hxB.subm (l := k) (m := j - k) (by omega) (by omega)
          exact this
        have hsn : (seg xs k j).length ≤ 256 := by rw [seg_len (by omega) (by omega)]; omega
        have hse : ((upd (eG xs k) (some 0) m j).map (LV.flt .f32)).set j (.flt .f32 (ceO (seg xs k j))) = (upd (eG xs k) (some 0) m (j + 1)).map (LV.flt .f32) := by
          rw [← upd_set hjl, List.map_set]; congr 1; show _ = LV.flt .f32 (if k < j then eK xs k j else some 0); rw [if_pos (by omega)]; rfl
        repeat' (first
          | ((with_reducible refine hK _ _ ?_); clear hK K)
          | ((with_reducible refine hK _ ?_); clear hK K; try simp only [])
          | ((first | (with_reducible show AOp _ _ _ _ _ _ _) | (with_reducible show AQOp _ _ _ _ _ _ _)); simp (disch := first | ((with_reducible show liveO _ _ _ = true); first | assumption | (exact (liveO_l0 hbl).trans rfl) | (exact (liveO_l0 hq3).trans rfl) | (exact (liveO_l hq3).trans rfl) | (exact liveO_setS (by assumption)) | (exact PtL.live (by assumption)) | (exact PtL.liveA (by assumption) _) | (simp only [go_sem]; done)) | omega | assumption | rfl | (simp only [go_sem]; first | done | omega)) only [go_sem, reduceIte, reduceCtorEq, Nat.reduceAdd, Nat.reduceMul, Nat.reduceSub, Nat.reduceLeDiff, Nat.lt_irrefl, Nat.reduceLT, Nat.reduceEqDiff, Nat.reduceBEq, Int.reduceLE, Int.reduceLT, Int.reduceToNat, w64, eq_self, h.lenm, mkN, iE, gE, hsl, hse, hget_l0 hbl, hput_l0 hbl, szO_l0 hbl])
          | (with_reducible refine AW_seq (fun K hK => ?_))
          | (with_reducible refine AW_region tyOk ?_)
          | ((with_reducible refine AW_drawn (id := 12) tyOk 11 ?_ ?_ ?_); (kernel_rfl); (kernel_rfl); simp only [List.take_succ_cons, List.take_zero, List.drop_succ_cons, List.drop_zero])
          | ((with_reducible refine AW_drawn (id := 25) tyOk 12 ?_ ?_ ?_); (kernel_rfl); (kernel_rfl); simp only [List.take_succ_cons, List.take_zero, List.drop_succ_cons, List.drop_zero])
          | ((with_reducible refine AW_quiet (id := 29) tyOk ?_ ?_ ?_); (kernel_rfl); (kernel_rfl))
          | ((with_reducible apply AW_tree (id := 31) tyOk 16); (kernel_rfl); (exact rfl))
          | ((with_reducible refine AW_quiet (id := 42) tyOk ?_ ?_ ?_); (kernel_rfl); (kernel_rfl))
          | ((with_reducible refine AAny_leaf (by decide +kernel) ?_); exact ⟨rfl, rfl⟩)
          | (with_reducible refine AAny_pure 0 rfl rfl (by decide +kernel) (by decide +kernel) (fun K hK => ?_))
          | (with_reducible refine AAny_pure 1 rfl rfl (by decide +kernel) (by decide +kernel) (fun K hK => ?_))
          | (with_reducible refine AAny_pure 4 rfl rfl (by decide +kernel) (by decide +kernel) (fun K hK => ?_))
          | (with_reducible refine AAny_pure 5 rfl rfl (by decide +kernel) (by decide +kernel) (fun K hK => ?_))
          | (with_reducible refine AAny_pure 6 rfl rfl (by decide +kernel) (by decide +kernel) (fun K hK => ?_))
          | (with_reducible refine AAny_pure 9 rfl rfl (by decide +kernel) (by decide +kernel) (fun K hK => ?_))
          | (with_reducible refine AAny_pure 10 rfl rfl (by decide +kernel) (by decide +kernel) (fun K hK => ?_))
          | (with_reducible refine AAny_pure 11 rfl rfl (by decide +kernel) (by decide +kernel) (fun K hK => ?_))
          | (with_reducible refine AAny_step 2 [7] (by decide +kernel) ?_)
          | (with_reducible refine AAny_step 2 [8] (by decide +kernel) ?_)
          | (with_reducible refine AAny_step 3 [7] (by decide +kernel) ?_)
          | (with_reducible refine AAny_step 3 [8] (by decide +kernel) ?_)
          | (with_reducible refine AAny_step 2 [] (by decide +kernel) ?_)
          | (with_reducible refine AAny_step 3 [] (by decide +kernel) ?_)
          | (with_reducible refine AAny_step 7 [] (by decide +kernel) ?_)
          | (with_reducible refine AAny_step 8 [] (by decide +kernel) ?_)
          | (with_reducible refine AAny_step 12 [] (by decide +kernel) ?_)
          | (with_reducible refine AAny_step 13 [] (by decide +kernel) ?_)
          | (with_reducible refine AAny_step 14 [] (by decide +kernel) ?_)
          | (with_reducible refine AAny_step 15 [] (by decide +kernel) ?_)
          | (with_reducible refine AAll_cons rfl (fun K hK => ?_) ?_)
          | (with_reducible exact AAll_nil)
          | ((with_reducible show thenA _ _ _ _ _); simp only [thenA, blockA, if_true, if_false, reduceIte])
          | ((with_reducible show blockA _ _ _ _ _); simp only [thenA, blockA, if_true, if_false, reduceIte, Nat.reduceEqDiff, reduceCtorEq])
          | (with_reducible refine AOps_cons (fun K hK => ?_))
          | (with_reducible refine AQOps_cons (fun K hK => ?_))
          | ((with_reducible refine AQOps_nil ?_); try simp only [thenA, blockA, if_true, if_false, reduceIte, Nat.reduceEqDiff, reduceCtorEq])
          | ((with_reducible refine AOps_nil ?_); try simp only [thenA, blockA, if_true, if_false, reduceIte, Nat.reduceEqDiff, reduceCtorEq])
          | (with_reducible refine AW_block ?_)
          | ((first | (with_reducible refine AW_ret ?_) | (with_reducible refine AW_skip ?_) | (with_reducible refine AW_exit ?_)); try simp only [thenA, blockA, if_true, if_false, reduceIte, Nat.reduceEqDiff, reduceCtorEq])
          | ((with_reducible show AW _ _ (.cond _ _ _) _ _ _); refine AW_cond rfl (fun hg => ?_) (fun hg => ?_) <;> first | (exfalso; simp only [reduceCtorEq] at hg; done) | ((try simp only [Bool.not_eq_true', Bool.not_eq_false', decide_eq_true_eq, decide_eq_false_iff_not] at hg); try (exfalso; omega)))
          | ((with_reducible show _ ∧ _); refine And.intro (fun hg => ?_) (fun hg => ?_) <;> (try simp only [Bool.not_eq_true', Bool.not_eq_false'] at hg) <;> simp only [hg] <;> (try simp only [decide_eq_true_eq, decide_eq_false_iff_not] at hg) <;> (try (exfalso; omega)))
          | ((first | (with_reducible apply FunH_intro) | (with_reducible apply AQ_intro)); (first | ((with_reducible show FunH _ 108 _ _ _); exact cutError_c _ _ _ (hsb.app _) hsn) | ((with_reducible show FunH _ 85 _ _ _); exact IsFinite_c _ _) | ((with_reducible show FunH _ 107 _ _ _); exact areParts_c _ _ _ _ (by first | assumption | exact RdL.app (by assumption) _ | exact RdL_hj rfl (by simp) | exact RdL_h0 rfl (by simp) | exact RdL_nil | exact RdL_emp) (by first | assumption | omega | (simp; omega) | (simp; done))) | ((with_reducible show FunH _ 108 _ _ _); exact cutError_c _ _ _ (by first | assumption | exact RdL.app (by assumption) _ | exact RdL_hj rfl (by simp) | exact RdL_h0 rfl (by simp) | exact RdL_nil | exact RdL_emp) (by first | assumption | omega | (simp; omega) | (simp; done)))))
          | (clear hK K)
          | fail)
        refine hK _ _ (j + 1) (by omega) (by omega) ?_ rfl
        simp only [junkAll, setAll, List.foldl_cons, List.foldl_nil, List.set_cons_succ, List.set_cons_zero, JL, true_or, or_true, and_true, true_and, reduceCtorEq, false_or, or_false, LV.int.injEq, LV.bool.injEq, LV.flt.injEq, LV.sl.injEq, LV.ptr.injEq, eq_self, Int.natCast_add, Int.natCast_one, Int.natCast_zero, Int.ofNat_zero]
      · have hjm : m = j := by omega
        subst hjm
        repeat' (first
          | ((with_reducible refine hK _ _ ?_); clear hK K)
          | ((first | (with_reducible show AOp _ _ _ _ _ _ _)); simp (disch := first | ((with_reducible show liveO _ _ _ = true); first | assumption | (exact (liveO_l0 hbl).trans rfl) | (exact (liveO_l0 hq3).trans rfl) | (exact (liveO_l hq3).trans rfl) | (exact liveO_setS (by assumption)) | (exact PtL.live (by assumption)) | (exact PtL.liveA (by assumption) _) | (simp only [go_sem]; done)) | omega | assumption | rfl | (simp only [go_sem]; first | done | omega)) only [go_sem, reduceIte, reduceCtorEq, Nat.reduceAdd, Nat.reduceMul, Nat.reduceSub, Nat.reduceLeDiff, Nat.lt_irrefl, Nat.reduceLT, Nat.reduceEqDiff, Nat.reduceBEq, Int.reduceLE, Int.reduceLT, Int.reduceToNat, w64, eq_self])
          | (with_reducible refine AW_seq (fun K hK => ?_))
          | (with_reducible refine AW_region tyOk ?_)
          | (with_reducible refine AOps_cons (fun K hK => ?_))
          | ((with_reducible refine AOps_nil ?_); try simp only [thenA, blockA, if_true, if_false, reduceIte, Nat.reduceEqDiff, reduceCtorEq])
          | (with_reducible refine AW_block ?_)
          | ((first | (with_reducible refine AW_ret ?_) | (with_reducible refine AW_skip ?_) | (with_reducible refine AW_exit ?_)); try simp only [thenA, blockA, if_true, if_false, reduceIte, Nat.reduceEqDiff, reduceCtorEq])
          | ((with_reducible show AW _ _ (.cond _ _ _) _ _ _); refine AW_cond rfl (fun hg => ?_) (fun hg => ?_) <;> first | (exfalso; simp only [reduceCtorEq] at hg; done) | ((try simp only [Bool.not_eq_true', Bool.not_eq_false', decide_eq_true_eq, decide_eq_false_iff_not] at hg); try (exfalso; omega)))
          | ((with_reducible show _ ∧ _); refine And.intro (fun hg => ?_) (fun hg => ?_) <;> (try simp only [Bool.not_eq_true', Bool.not_eq_false'] at hg) <;> simp only [hg] <;> (try simp only [decide_eq_true_eq, decide_eq_false_iff_not] at hg) <;> (try (exfalso; omega)))
          | ((with_reducible apply FunH_intro); (first | exact IsFinite_c _ _ | exact areParts_c _ _ _ _ (by first | assumption | exact RdL.app (by assumption) _ | exact RdL_hj rfl (by simp) | exact RdL_h0 rfl (by simp) | exact RdL_nil | exact RdL_emp) (by first | assumption | omega | (simp; omega) | (simp; done)) | exact cutError_c _ _ _ (by first | assumption | exact RdL.app (by assumption) _ | exact RdL_hj rfl (by simp) | exact RdL_h0 rfl (by simp) | exact RdL_nil | exact RdL_emp) (by first | assumption | omega | (simp; omega) | (simp; done))))
          | (clear hK K)
          | fail)
        refine hK _ _ (k + 1, G ++ [⟨0, false, 37, 1, (upd (eG xs k) (some 0) m m).map (LV.flt .f32)⟩]) ⟨by simp only; omega, by simp [hGl], ?_⟩ (by simp only; omega) ?_ ?_
        · intro i hi
          simp only at hi ⊢
          rcases Nat.lt_or_ge i k with h1 | h1
          · rw [List.getElem?_append_left (by omega)]; exact hG i h1
          · obtain rfl : i = k := by omega
            rw [List.getElem?_append_right (by omega), hGl, Nat.sub_self]; rfl
        · simp only [junkAll, setAll, List.foldl_cons, List.foldl_nil, List.set_cons_succ, List.set_cons_zero, JL, true_or, or_true, and_true, true_and, reduceCtorEq, false_or, or_false, LV.int.injEq, LV.bool.injEq, LV.flt.injEq, LV.sl.injEq, LV.ptr.injEq, eq_self, Int.natCast_add, Int.natCast_one, Int.natCast_zero, Int.ofNat_zero]
        · rw [hB]; simp
  have hkm : m = k := by omega
  subst hkm
  obtain ⟨B, hB⟩ : ∃ B, B = H ++ (⟨0, false, 22, 1, upd (eCell H.length m) LV.nils m m⟩ :: G) := ⟨_, rfl⟩
  rw [← hB]
  have hbl : B.length = H.length + (m + 1) := by rw [hB]; simp [hGl]
  have hxB : RdL B x (xs.map (LV.flt .f32)) := by rw [hB]; exact h.app _
  have hE : B[H.length]? = some ⟨0, false, 22, 1, upd (eCell H.length m) LV.nils m m⟩ := by rw [hB]; exact (hp_get0 _ _).trans rfl
  have hR : ∀ i, i < m → B[H.length + (i + 1)]? = some ⟨0, false, 37, 1, (upd (eG xs i) (some 0) m m).map (LV.flt .f32)⟩ := fun i hi => by rw [hB]; exact (hp_getj _ _ _).trans (hG i hi)
  have hcE : ∀ i, i < m → (upd (eCell H.length m) LV.nils m m)[i]? = some (.sl (H.length + (i + 1)) 0 0 m none) := fun i hi => by rw [upd_get hi, if_pos hi]; rfl
  have hcR : ∀ i k, i < m → k < m → ((upd (eG xs i) (some 0) m m).map (LV.flt .f32))[k]? = some (.flt .f32 (eG xs i k)) := fun i k hi hk => by rw [List.getElem?_map, upd_get hk, if_pos hk]; rfl
  obtain ⟨K4, hK4⟩ : ∃ K4, B = H ++ K4 := ⟨_, hB⟩
  clear hB hG hGl
  have hHB : H.length < B.length := by omega
  repeat' (first
    | ((with_reducible refine hK _ _ ?_); clear hK K)
    | ((first | (with_reducible show AOp _ _ _ _ _ _ _)); simp (disch := first | ((with_reducible show liveO _ _ _ = true); first | assumption | (exact (liveO_l0 hbl).trans rfl) | (exact (liveO_l0 hq3).trans rfl) | (exact (liveO_l hq3).trans rfl) | (exact liveO_setS (by assumption)) | (exact PtL.live (by assumption)) | (exact PtL.liveA (by assumption) _) | (simp only [go_sem]; done)) | omega | assumption | rfl | (simp only [go_sem]; first | done | omega)) only [go_sem, reduceIte, reduceCtorEq, Nat.reduceAdd, Nat.reduceMul, Nat.reduceSub, Nat.reduceLeDiff, Nat.lt_irrefl, Nat.reduceLT, Nat.reduceEqDiff, Nat.reduceBEq, Int.reduceLE, Int.reduceLT, Int.reduceToNat, w64, eq_self, h.lenm, mkP])
    | (with_reducible refine AW_seq (fun K hK => ?_))
    | (with_reducible refine AW_region tyOk ?_)
    | (with_reducible refine AOps_cons (fun K hK => ?_))
    | ((with_reducible refine AOps_nil ?_); try simp only [thenA, blockA, if_true, if_false, reduceIte, Nat.reduceEqDiff, reduceCtorEq])
    | (with_reducible refine AW_block ?_)
    | ((first | (with_reducible refine AW_ret ?_) | (with_reducible refine AW_skip ?_) | (with_reducible refine AW_exit ?_)); try simp only [thenA, blockA, if_true, if_false, reduceIte, Nat.reduceEqDiff, reduceCtorEq])
    | ((with_reducible show AW _ _ (.cond _ _ _) _ _ _); refine AW_cond rfl (fun hg => ?_) (fun hg => ?_) <;> first | (exfalso; simp only [reduceCtorEq] at hg; done) | ((try simp only [Bool.not_eq_true', Bool.not_eq_false', decide_eq_true_eq, decide_eq_false_iff_not] at hg); try (exfalso; omega)))
    | ((with_reducible show _ ∧ _); refine And.intro (fun hg => ?_) (fun hg => ?_) <;> (try simp only [Bool.not_eq_true', Bool.not_eq_false'] at hg) <;> simp only [hg] <;> (try simp only [decide_eq_true_eq, decide_eq_false_iff_not] at hg) <;> (try (exfalso; omega)))
    | ((with_reducible apply FunH_intro); (first | exact IsFinite_c _ _ | exact areParts_c _ _ _ _ (by first | assumption | exact RdL.app (by assumption) _ | exact RdL_hj rfl (by simp) | exact RdL_h0 rfl (by simp) | exact RdL_nil | exact RdL_emp) (by first | assumption | omega | (simp; omega) | (simp; done)) | exact cutError_c _ _ _ (by first | assumption | exact RdL.app (by assumption) _ | exact RdL_hj rfl (by simp) | exact RdL_h0 rfl (by simp) | exact RdL_nil | exact RdL_emp) (by first | assumption | omega | (simp; omega) | (simp; done))))
    | (clear hK K)
    | fail)
  refine AW_loopV [13, 14, 15, 16, 72, 73, 74, 75, 76, 77, 78, 79, 80, 81, 82, 83, 84, 85, 86, 87, 88, 89, 90, 91, 92, 93, 94, 95, 96, 97, 98, 99, 100, 101, 102, 103, 104, 105, 106, 107, 108, 109, 110, 111, 112, 113, 114, 115, 116, 117, 118, 119, 120, 121, 122, 123, 124, 125, 126, 127, 128, 129, 130, 131, 132, 133, 134, 135, 136, 137, 138, 139, 140, 141, 142, 143, 144, 145, 146, 147, 148, 149, 150, 151, 152, 153, 154, 155, 156, 157, 158, 159, 160, 161, 162, 163] (fun p : Nat × Hp => [(72, .int .i64 (p.1 : Nat))]) (fun p => B ++ (⟨0, false, 22, 1, upd (lCell B.length m) .nils Q p.1⟩ :: ⟨0, false, 129, 1, upd (fCell B.length m) .nils Q p.1⟩ :: p.2))
    (fun p => p.1 ≤ Q ∧ p.2.length = 2 * p.1 ∧ ∀ j, j < p.1 → p.2[2 * j]? = some ⟨0, false, 37, 1, (bcRow xs j).map (LV.flt .f32)⟩ ∧ p.2[2 * j + 1]? = some ⟨0, false, 3, 1, (bcFrom xs j).map (LV.int .i64)⟩) (fun p => Q - p.1) (0, []) ⟨Nat.zero_le _, rfl, fun j hj => absurd hj (Nat.not_lt_zero _)⟩ ?_ ?_ ?_
  · simp only [junkAll, setAll, List.foldl_cons, List.foldl_nil, List.set_cons_succ, List.set_cons_zero, JL, true_or, or_true, and_true, true_and, reduceCtorEq, false_or, or_false, LV.int.injEq, LV.bool.injEq, LV.flt.injEq, LV.sl.injEq, LV.ptr.injEq, eq_self, Int.natCast_add, Int.natCast_one, Int.natCast_zero, Int.ofNat_zero]
  · simp only [upd_zero]
  intro ⟨p, R⟩ ⟨hp, hRl, hRr⟩ K hK
  simp only at hp hRl hRr
  simp only [junkAll, setAll, List.foldl_cons, List.foldl_nil, List.set_cons_succ, List.set_cons_zero]
  by_cases hpq : p < Q
  · have hul : (upd (lCell B.length m) LV.nils Q p).length = Q := upd_len
    have huf : (upd (fCell B.length m) LV.nils Q p).length = Q := upd_len
    have hus : (upd (lCell B.length m) LV.nils Q p).set p (.sl (B.length + (2 * p + 2)) 0 0 m none) = upd (lCell B.length m) LV.nils Q (p + 1) := upd_set hpq
    have hut : (upd (fCell B.length m) LV.nils Q p).set p (.sl (B.length + (2 * p + 3)) 0 0 m none) = upd (fCell B.length m) LV.nils Q (p + 1) := upd_set hpq
    repeat' (first
      | ((with_reducible refine hK _ _ ?_); clear hK K)
      | ((first | (with_reducible show AOp _ _ _ _ _ _ _)); simp (disch := first | ((with_reducible show liveO _ _ _ = true); first | assumption | (exact (liveO_l0 hbl).trans rfl) | (exact (liveO_l0 hq3).trans rfl) | (exact (liveO_l hq3).trans rfl) | (exact liveO_setS (by assumption)) | (exact PtL.live (by assumption)) | (exact PtL.liveA (by assumption) _) | (simp only [go_sem]; done)) | omega | assumption | rfl | (simp only [go_sem]; first | done | omega)) only [go_sem, reduceIte, reduceCtorEq, Nat.reduceAdd, Nat.reduceMul, Nat.reduceSub, Nat.reduceLeDiff, Nat.lt_irrefl, Nat.reduceLT, Nat.reduceEqDiff, Nat.reduceBEq, Int.reduceLE, Int.reduceLT, Int.reduceToNat, w64, eq_self, h.lenm, mkN, hRl, hus, hut, List.length_append, List.length_cons, Nat.add_assoc])
      | (with_reducible refine AW_seq (fun K hK => ?_))
      | (with_reducible refine AW_region tyOk ?_)
      | (with_reducible refine AOps_cons (fun K hK => ?_))
      | ((with_reducible refine AOps_nil ?_); try simp only [thenA, blockA, if_true, if_false, reduceIte, Nat.reduceEqDiff, reduceCtorEq])
      | (with_reducible refine AW_block ?_)
      | ((first | (with_reducible refine AW_ret ?_) | (with_reducible refine AW_skip ?_) | (with_reducible refine AW_exit ?_)); try simp only [thenA, blockA, if_true, if_false, reduceIte, Nat.reduceEqDiff, reduceCtorEq])
      | ((with_reducible show AW _ _ (.cond _ _ _) _ _ _); refine AW_cond rfl (fun hg => ?_) (fun hg => ?_) <;> first | (exfalso; simp only [reduceCtorEq] at hg; done) | ((try simp only [Bool.not_eq_true', Bool.not_eq_false', decide_eq_true_eq, decide_eq_false_iff_not] at hg); try (exfalso; omega)))
      | ((with_reducible show _ ∧ _); refine And.intro (fun hg => ?_) (fun hg => ?_) <;> (try simp only [Bool.not_eq_true', Bool.not_eq_false'] at hg) <;> simp only [hg] <;> (try simp only [decide_eq_true_eq, decide_eq_false_iff_not] at hg) <;> (try (exfalso; omega)))
      | ((with_reducible apply FunH_intro); (first | exact IsFinite_c _ _ | exact areParts_c _ _ _ _ (by first | assumption | exact RdL.app (by assumption) _ | exact RdL_hj rfl (by simp) | exact RdL_h0 rfl (by simp) | exact RdL_nil | exact RdL_emp) (by first | assumption | omega | (simp; omega) | (simp; done)) | exact cutError_c _ _ _ (by first | assumption | exact RdL.app (by assumption) _ | exact RdL_hj rfl (by simp) | exact RdL_h0 rfl (by simp) | exact RdL_nil | exact RdL_emp) (by first | assumption | omega | (simp; omega) | (simp; done))))
      | (clear hK K)
      | fail)
    obtain ⟨B3, hB3⟩ : ∃ B3, B3 = B ++ (⟨0, false, 22, 1, upd (lCell B.length m) LV.nils Q (p + 1)⟩ :: ⟨0, false, 129, 1, upd (fCell B.length m) LV.nils Q (p + 1)⟩ :: R) := ⟨_, rfl⟩
    have hx3 : xs.length + 1 = m := by omega
    have hlow : ∀ (L : Hp), (fun p : Nat × Hp => p) (p, L) = (p, L) := fun _ => rfl
    clear hlow
    obtain ⟨q3, hq3e⟩ : ∃ q3, B.length + (2 * p + 2) = q3 := ⟨_, rfl⟩
    have hq3 : B3.length = q3 := by rw [hB3, ← hq3e]; simp [hRl]
    have hend : ∀ X Y : AO, B3 ++ [X, Y] = B ++ (⟨0, false, 22, 1, upd (lCell B.length m) LV.nils Q (p + 1)⟩ :: ⟨0, false, 129, 1, upd (fCell B.length m) LV.nils Q (p + 1)⟩ :: (R ++ [X, Y])) := fun X Y => by rw [hB3]; simp
    have hnext : ∀ X Y : List LV, X = (bcRow xs p).map (LV.flt .f32) → Y = (bcFrom xs p).map (LV.int .i64) → ∀ j, j < p + 1 → (R ++ [⟨0, false, 37, 1, X⟩, ⟨0, false, 3, 1, Y⟩])[2 * j]? = some ⟨0, false, 37, 1, (bcRow xs j).map (LV.flt .f32)⟩ ∧ (R ++ [⟨0, false, 37, 1, X⟩, ⟨0, false, 3, 1, Y⟩])[2 * j + 1]? = some ⟨0, false, 3, 1, (bcFrom xs j).map (LV.int .i64)⟩ := fun X Y hX hY j hj => by
      rcases Nat.lt_or_ge j p with h1 | h1
      · rw [List.getElem?_append_left (by omega), List.getElem?_append_left (by omega)]; exact hRr j h1
      · obtain rfl : j = p := by omega
        rw [List.getElem?_append_right (by omega), List.getElem?_append_right (by omega), hRl, Nat.sub_self, show 2 * j + 1 - 2 * j = 1 by omega, hX, hY]
        exact ⟨rfl, rfl⟩
    rcases Nat.eq_zero_or_pos p with hp0 | hp0
    · have hb0 : bcRow xs p = List.replicate m (some 0) := by rw [hp0, ← hx3]; rfl
      have hb1 : bcFrom xs p = List.replicate m 0 := by rw [hp0, ← hx3]; rfl
      refine AW_loopV [14, 15, 16, 88, 89, 90, 91, 92, 93, 94, 95, 96, 97, 98, 99, 100, 101, 102, 103, 104, 105, 106, 107, 108, 109, 110, 111, 112, 113, 114, 115, 116, 117, 118, 119, 120, 121, 122, 123, 124, 125, 126, 127, 128, 129, 130, 131, 132, 133, 134, 135, 136, 137, 138, 139, 140, 141, 142, 143, 144, 145, 146, 147, 148, 149, 150, 151, 152, 153, 154, 155, 156, 157, 158, 159, 160, 161, 162] (fun _ : Unit => [(14, .int .i64 (p : Nat))]) (fun _ => B3 ++ [⟨0, false, 37, 1, (bcRow xs p).map (LV.flt .f32)⟩, ⟨0, false, 3, 1, (bcFrom xs p).map (LV.int .i64)⟩]) (fun _ => True) (fun _ => 0) () trivial ?_ ?_ ?_
      · simp only [junkAll, setAll, List.foldl_cons, List.foldl_nil, List.set_cons_succ, List.set_cons_zero, JL, true_or, or_true, and_true, true_and, reduceCtorEq, false_or, or_false, LV.int.injEq, LV.bool.injEq, LV.flt.injEq, LV.sl.injEq, LV.ptr.injEq, eq_self, Int.natCast_add, Int.natCast_one, Int.natCast_zero, Int.ofNat_zero]
      · rw [hend]; simp only [hb0, hb1, List.map_replicate]
      · intro _ _ K hK
        simp only [junkAll, setAll, List.foldl_cons, List.foldl_nil, List.set_cons_succ, List.set_cons_zero]
        repeat' (first
          | ((with_reducible refine hK _ _ ?_); clear hK K)
          | ((first | (with_reducible show AOp _ _ _ _ _ _ _)); simp (disch := first | ((with_reducible show liveO _ _ _ = true); first | assumption | (exact (liveO_l0 hbl).trans rfl) | (exact (liveO_l0 hq3).trans rfl) | (exact (liveO_l hq3).trans rfl) | (exact liveO_setS (by assumption)) | (exact PtL.live (by assumption)) | (exact PtL.liveA (by assumption) _) | (simp only [go_sem]; done)) | omega | assumption | rfl | (simp only [go_sem]; first | done | omega)) only [go_sem, reduceIte, reduceCtorEq, Nat.reduceAdd, Nat.reduceMul, Nat.reduceSub, Nat.reduceLeDiff, Nat.lt_irrefl, Nat.reduceLT, Nat.reduceEqDiff, Nat.reduceBEq, Int.reduceLE, Int.reduceLT, Int.reduceToNat, w64, eq_self])
          | (with_reducible refine AW_seq (fun K hK => ?_))
          | (with_reducible refine AW_region tyOk ?_)
          | (with_reducible refine AOps_cons (fun K hK => ?_))
          | ((with_reducible refine AOps_nil ?_); try simp only [thenA, blockA, if_true, if_false, reduceIte, Nat.reduceEqDiff, reduceCtorEq])
          | (with_reducible refine AW_block ?_)
          | ((first | (with_reducible refine AW_ret ?_) | (with_reducible refine AW_skip ?_) | (with_reducible refine AW_exit ?_)); try simp only [thenA, blockA, if_true, if_false, reduceIte, Nat.reduceEqDiff, reduceCtorEq])
          | ((with_reducible show AW _ _ (.cond _ _ _) _ _ _); refine AW_cond rfl (fun hg => ?_) (fun hg => ?_) <;> first | (exfalso; simp only [reduceCtorEq] at hg; done) | ((try simp only [Bool.not_eq_true', Bool.not_eq_false', decide_eq_true_eq, decide_eq_false_iff_not] at hg); try (exfalso; omega)))
          | ((with_reducible show _ ∧ _); refine And.intro (fun hg => ?_) (fun hg => ?_) <;> (try simp only [Bool.not_eq_true', Bool.not_eq_false'] at hg) <;> simp only [hg] <;> (try simp only [decide_eq_true_eq, decide_eq_false_iff_not] at hg) <;> (try (exfalso; omega)))
          | ((with_reducible apply FunH_intro); (first | exact IsFinite_c _ _ | exact areParts_c _ _ _ _ (by first | assumption | exact RdL.app (by assumption) _ | exact RdL_hj rfl (by simp) | exact RdL_h0 rfl (by simp) | exact RdL_nil | exact RdL_emp) (by first | assumption | omega | (simp; omega) | (simp; done)) | exact cutError_c _ _ _ (by first | assumption | exact RdL.app (by assumption) _ | exact RdL_hj rfl (by simp) | exact RdL_h0 rfl (by simp) | exact RdL_nil | exact RdL_emp) (by first | assumption | omega | (simp; omega) | (simp; done))))
          | (clear hK K)
          | fail)
        refine hK _ _ (p + 1, R ++ [⟨0, false, 37, 1, (bcRow xs p).map (LV.flt .f32)⟩, ⟨0, false, 3, 1, (bcFrom xs p).map (LV.int .i64)⟩]) ⟨by simp only; omega, by simp [hRl]; omega, hnext _ _ rfl rfl⟩ (by simp only; omega) ?_ ?_
        · simp only [junkAll, setAll, List.foldl_cons, List.foldl_nil, List.set_cons_succ, List.set_cons_zero, JL, true_or, or_true, and_true, true_and, reduceCtorEq, false_or, or_false, LV.int.injEq, LV.bool.injEq, LV.flt.injEq, LV.sl.injEq, LV.ptr.injEq, eq_self, Int.natCast_add, Int.natCast_one, Int.natCast_zero, Int.ofNat_zero]
        · rw [hend]
    obtain ⟨q, hpe⟩ : ∃ q, p = q + 1 := ⟨p - 1, by omega⟩
    have hpm : ((p : Int) - 1) = (q : Nat) := by omega
    have hL3 : B3[B.length]? = some ⟨0, false, 22, 1, upd (lCell B.length m) LV.nils Q (p + 1)⟩ := by rw [hB3]; exact (hp_get0 _ _).trans rfl
    have hF3 : B3[B.length + 1]? = some ⟨0, false, 129, 1, upd (fCell B.length m) LV.nils Q (p + 1)⟩ := by rw [hB3]; exact (hp_getj _ _ _).trans rfl
    have hP3 : B3[B.length + (2 * q + 2)]? = some ⟨0, false, 37, 1, (bcRow xs q).map (LV.flt .f32)⟩ := by rw [hB3]; exact (hp_getj _ _ _).trans (hRr q (by omega)).1
    have hE3 : B3[H.length]? = some ⟨0, false, 22, 1, upd (eCell H.length m) LV.nils m m⟩ := by rw [hB3, List.getElem?_append_left hHB]; exact hE
    have hR3 : ∀ i, i < m → B3[H.length + (i + 1)]? = some ⟨0, false, 37, 1, (upd (eG xs i) (some 0) m m).map (LV.flt .f32)⟩ := fun i hi => by rw [hB3, List.getElem?_append_left (by omega)]; exact hR i hi
    have cLp : (upd (lCell B.length m) LV.nils Q (p + 1))[p]? = some (.sl q3 0 0 m none) := by rw [upd_get hpq, if_pos (by omega), ← hq3e]; rfl
    have cLq : (upd (lCell B.length m) LV.nils Q (p + 1))[q]? = some (.sl (B.length + (2 * q + 2)) 0 0 m none) := by rw [upd_get (by omega), if_pos (by omega)]; rfl
    have cFp : (upd (fCell B.length m) LV.nils Q (p + 1))[p]? = some (.sl (q3 + 1) 0 0 m none) := by rw [upd_get hpq, if_pos (by omega), show q3 + 1 = B.length + (2 * p + 3) by omega]; rfl
    have iL := fun L i => idx_at hL3 (n := Q) (by rw [upd_len]; exact Nat.le_refl _) L (i := i)
    have iF := fun L i => idx_at hF3 (n := Q) (by rw [upd_len]; exact Nat.le_refl _) L (i := i)
    have iE := fun L i => idx_at hE3 (n := m) (by rw [upd_len]; exact Nat.le_refl _) L (i := i)
    have iP := fun L i => idx_at hP3 (n := m) (by rw [List.length_map, bcRow_len]; omega) L (i := i)
    have iR := fun L i k (hk : k < m) => idx_at (hR3 k hk) (n := m) (by rw [List.length_map, upd_len]; exact Nat.le_refl _) L (i := i)
    have gLp := fun L => (get_at hL3 L p).trans cLp
    have gLq := fun L => (get_at hL3 L q).trans cLq
    have gFp := fun L => (get_at hF3 L p).trans cFp
    have gE := fun L i (hi : i < m) => (get_at hE3 L i).trans (hcE i hi)
    have gR := fun L i k (hi : i < m) (hk : k < m) => (get_at (hR3 i hi) L k).trans (hcR i k hi hk)
    have gP := fun L i (hi : i < m) => (get_at hP3 L i).trans (by rw [List.getElem?_map, ix_get? (bcRow xs q) i (by rw [bcRow_len]; omega)]; rfl : ((bcRow xs q).map (LV.flt .f32))[i]? = some (LV.flt .f32 (ix (bcRow xs q) i)))
    have t1 : ((p : Nat) : Int).toNat = p := by omega
    refine AW_loopV [14, 15, 16, 88, 89, 90, 91, 92, 93, 94, 95, 96, 97, 98, 99, 100, 101, 102, 103, 104, 105, 106, 107, 108, 109, 110, 111, 112, 113, 114, 115, 116, 117, 118, 119, 120, 121, 122, 123, 124, 125, 126, 127, 128, 129, 130, 131, 132, 133, 134, 135, 136, 137, 138, 139, 140, 141, 142, 143, 144, 145, 146, 147, 148, 149, 150, 151, 152, 153, 154, 155, 156, 157, 158, 159, 160, 161, 162] (fun k : Nat => [(14, .int .i64 (k : Nat))]) (fun k => B3 ++ [⟨0, false, 37, 1, (upd (gL xs q) (some 0) m k).map (LV.flt .f32)⟩, ⟨0, false, 3, 1, (upd (gF xs q) 0 m k).map (LV.int .i64)⟩]) (fun k => p ≤ k ∧ k ≤ m) (fun k => m - k) p ⟨Nat.le_refl _, by omega⟩ ?_ ?_ ?_
    · simp only [junkAll, setAll, List.foldl_cons, List.foldl_nil, List.set_cons_succ, List.set_cons_zero, JL, true_or, or_true, and_true, true_and, reduceCtorEq, false_or, or_false, LV.int.injEq, LV.bool.injEq, LV.flt.injEq, LV.sl.injEq, LV.ptr.injEq, eq_self, Int.natCast_add, Int.natCast_one, Int.natCast_zero, Int.ofNat_zero]
    · rw [hend, upd_low (fun j hj => gL_low (by omega)), upd_low (fun j hj => gF_low (by omega)), upd_zero, upd_zero]; simp
    intro k ⟨hk0, hk⟩ K hK
    simp only [junkAll, setAll, List.foldl_cons, List.foldl_nil, List.set_cons_succ, List.set_cons_zero]
    by_cases hkl : k < m
    · have hgt : (0 : Int) < (p : Int) := by omega
      rcases Nat.eq_zero_or_pos q with hq0 | hq0
      · have hu1 : ((upd (gL xs q) (some 0) m k).map (LV.flt .f32)).length = m := by rw [List.length_map, upd_len]
        have hu2 : (upd (gL xs q) (some 0) m k).length = m := upd_len
        have hse : ((upd (gL xs q) (some 0) m k).map (LV.flt .f32)).set k (.flt .f32 (eG xs 0 k)) = (upd (gL xs q) (some 0) m (k + 1)).map (LV.flt .f32) := by
          rw [← upd_set hkl, List.map_set, gL_one hq0 (by omega)]; congr 1; show LV.flt .f32 (if 0 < k then eK xs 0 k else some 0) = _; rw [if_pos (by omega)]
        have hF : upd (gF xs q) 0 m k = upd (gF xs q) 0 m (k + 1) := upd_same (gF_one hq0 (by omega))
        have hp1 : (p : Int) = 1 := by omega
        have hp2 : ((p : Int) == 1) = true := by simp [hp1]
        repeat' (first
          | ((with_reducible refine hK _ _ ?_); clear hK K)
          | ((with_reducible refine hK _ ?_); clear hK K; try simp only [])
          | ((first | (with_reducible show AOp _ _ _ _ _ _ _) | (with_reducible show AQOp _ _ _ _ _ _ _)); simp (disch := first | ((with_reducible show liveO _ _ _ = true); first | assumption | (exact (liveO_l0 hbl).trans rfl) | (exact (liveO_l0 hq3).trans rfl) | (exact (liveO_l hq3).trans rfl) | (exact liveO_setS (by assumption)) | (exact PtL.live (by assumption)) | (exact PtL.liveA (by assumption) _) | (simp only [go_sem]; done)) | omega | assumption | rfl | (simp only [go_sem]; first | done | omega)) only [go_sem, reduceIte, reduceCtorEq, Nat.reduceAdd, Nat.reduceMul, Nat.reduceSub, Nat.reduceLeDiff, Nat.lt_irrefl, Nat.reduceLT, Nat.reduceEqDiff, Nat.reduceBEq, Int.reduceLE, Int.reduceLT, Int.reduceToNat, w64, eq_self, hp2, hpm, iL, iE, iR, gLp, gE, gR, hse, hput_l0 hq3, hget_l0 hq3, t1])
          | (with_reducible refine AW_seq (fun K hK => ?_))
          | (with_reducible refine AW_region tyOk ?_)
          | ((with_reducible refine AW_drawn (id := 25) tyOk 12 ?_ ?_ ?_); (kernel_rfl); (kernel_rfl); simp only [List.take_succ_cons, List.take_zero, List.drop_succ_cons, List.drop_zero])
          | (with_reducible refine AOps_cons (fun K hK => ?_))
          | (with_reducible refine AQOps_cons (fun K hK => ?_))
          | ((with_reducible refine AQOps_nil ?_); try simp only [thenA, blockA, if_true, if_false, reduceIte, Nat.reduceEqDiff, reduceCtorEq])
          | ((with_reducible refine AOps_nil ?_); try simp only [thenA, blockA, if_true, if_false, reduceIte, Nat.reduceEqDiff, reduceCtorEq])
          | (with_reducible refine AW_block ?_)
          | ((first | (with_reducible refine AW_ret ?_) | (with_reducible refine AW_skip ?_) | (with_reducible refine AW_exit ?_)); try simp only [thenA, blockA, if_true, if_false, reduceIte, Nat.reduceEqDiff, reduceCtorEq])
          | ((with_reducible show AW _ _ (.cond _ _ _) _ _ _); refine AW_cond rfl (fun hg => ?_) (fun hg => ?_) <;> first | (exfalso; simp only [reduceCtorEq] at hg; done) | ((try simp only [Bool.not_eq_true', Bool.not_eq_false', decide_eq_true_eq, decide_eq_false_iff_not] at hg); try (exfalso; omega)))
          | ((with_reducible show _ ∧ _); refine And.intro (fun hg => ?_) (fun hg => ?_) <;> (try simp only [Bool.not_eq_true', Bool.not_eq_false'] at hg) <;> simp only [hg] <;> (try simp only [decide_eq_true_eq, decide_eq_false_iff_not] at hg) <;> (try (exfalso; omega)))
          | ((first | (with_reducible apply FunH_intro) | (with_reducible apply AQ_intro)); (first | exact IsFinite_c _ _ | exact areParts_c _ _ _ _ (by first | assumption | exact RdL.app (by assumption) _ | exact RdL_hj rfl (by simp) | exact RdL_h0 rfl (by simp) | exact RdL_nil | exact RdL_emp) (by first | assumption | omega | (simp; omega) | (simp; done)) | exact cutError_c _ _ _ (by first | assumption | exact RdL.app (by assumption) _ | exact RdL_hj rfl (by simp) | exact RdL_h0 rfl (by simp) | exact RdL_nil | exact RdL_emp) (by first | assumption | omega | (simp; omega) | (simp; done))))
          | (clear hK K)
          | fail)
        refine hK _ _ (k + 1) (by omega) (by omega) ?_ ?_
        · simp only [junkAll, setAll, List.foldl_cons, List.foldl_nil, List.set_cons_succ, List.set_cons_zero, JL, true_or, or_true, and_true, true_and, reduceCtorEq, false_or, or_false, LV.int.injEq, LV.bool.injEq, LV.flt.injEq, LV.sl.injEq, LV.ptr.injEq, eq_self, Int.natCast_add, Int.natCast_one, Int.natCast_zero, Int.ofNat_zero]
        · simp only [← hF]
      · have hne1 : ((p : Int) == 1) = false := by (simp; omega)
        repeat' (first
          | ((with_reducible refine hK _ _ ?_); clear hK K)
          | ((first | (with_reducible show AOp _ _ _ _ _ _ _)); simp (disch := first | ((with_reducible show liveO _ _ _ = true); first | assumption | (exact (liveO_l0 hbl).trans rfl) | (exact (liveO_l0 hq3).trans rfl) | (exact (liveO_l hq3).trans rfl) | (exact liveO_setS (by assumption)) | (exact PtL.live (by assumption)) | (exact PtL.liveA (by assumption) _) | (simp only [go_sem]; done)) | omega | assumption | rfl | (simp only [go_sem]; first | done | omega)) only [go_sem, reduceIte, reduceCtorEq, Nat.reduceAdd, Nat.reduceMul, Nat.reduceSub, Nat.reduceLeDiff, Nat.lt_irrefl, Nat.reduceLT, Nat.reduceEqDiff, Nat.reduceBEq, Int.reduceLE, Int.reduceLT, Int.reduceToNat, w64, eq_self, hpm, hne1])
          | (with_reducible refine AW_seq (fun K hK => ?_))
          | (with_reducible refine AW_region tyOk ?_)
          | (with_reducible refine AOps_cons (fun K hK => ?_))
          | ((with_reducible refine AOps_nil ?_); try simp only [thenA, blockA, if_true, if_false, reduceIte, Nat.reduceEqDiff, reduceCtorEq])
          | (with_reducible refine AW_block ?_)
          | ((first | (with_reducible refine AW_ret ?_) | (with_reducible refine AW_skip ?_) | (with_reducible refine AW_exit ?_)); try simp only [thenA, blockA, if_true, if_false, reduceIte, Nat.reduceEqDiff, reduceCtorEq])
          | ((with_reducible show AW _ _ (.cond _ _ _) _ _ _); refine AW_cond rfl (fun hg => ?_) (fun hg => ?_) <;> first | (exfalso; simp only [reduceCtorEq] at hg; done) | ((try simp only [Bool.not_eq_true', Bool.not_eq_false', decide_eq_true_eq, decide_eq_false_iff_not] at hg); try (exfalso; omega)))
          | ((with_reducible show _ ∧ _); refine And.intro (fun hg => ?_) (fun hg => ?_) <;> (try simp only [Bool.not_eq_true', Bool.not_eq_false'] at hg) <;> simp only [hg] <;> (try simp only [decide_eq_true_eq, decide_eq_false_iff_not] at hg) <;> (try (exfalso; omega)))
          | ((with_reducible apply FunH_intro); (first | exact IsFinite_c _ _ | exact areParts_c _ _ _ _ (by first | assumption | exact RdL.app (by assumption) _ | exact RdL_hj rfl (by simp) | exact RdL_h0 rfl (by simp) | exact RdL_nil | exact RdL_emp) (by first | assumption | omega | (simp; omega) | (simp; done)) | exact cutError_c _ _ _ (by first | assumption | exact RdL.app (by assumption) _ | exact RdL_hj rfl (by simp) | exact RdL_h0 rfl (by simp) | exact RdL_nil | exact RdL_emp) (by first | assumption | omega | (simp; omega) | (simp; done))))
          | (clear hK K)
          | fail)
        refine AW_loopV [15, 16, 113, 114, 115, 116, 117, 118, 119, 120, 121, 122, 123, 124, 125, 126, 127, 128, 129, 130, 131, 132, 133, 134, 135, 136, 137, 138, 139, 140, 141, 142, 143, 144, 145, 146, 147, 148, 149, 150, 151, 152, 153, 154, 155, 156, 157, 158, 159, 160, 161, 162] (fun t : Nat => [(15, .int .i64 ((q + t : Nat)))]) (fun t => B3 ++ [⟨0, false, 37, 1, bX xs q m k t⟩, ⟨0, false, 3, 1, bY xs q m k t⟩]) (fun t => t ≤ k - q) (fun t => k - q - t) 0 (Nat.zero_le _) ?_ ?_ ?_
        · simp only [junkAll, setAll, List.foldl_cons, List.foldl_nil, List.set_cons_succ, List.set_cons_zero, JL, true_or, or_true, and_true, true_and, reduceCtorEq, false_or, or_false, LV.int.injEq, LV.bool.injEq, LV.flt.injEq, LV.sl.injEq, LV.ptr.injEq, eq_self, Int.natCast_add, Int.natCast_one, Int.natCast_zero, Int.ofNat_zero]; (try omega)
        · simp only [bX_zero hkl, bY_zero hkl]
        intro t ht K hK
        simp only [junkAll, setAll, List.foldl_cons, List.foldl_nil, List.set_cons_succ, List.set_cons_zero]
        have hXl : (bX xs q m k t).length = m := bX_len
        have hYl : (bY xs q m k t).length = m := bY_len
        have hXk := bX_at (xs := xs) (q := q) (t := t) hkl
        by_cases htl : t < k - q
        · have hei : eG xs (q + t) k = eK xs (q + t) k := if_pos (by omega)
          have hst : bcN (bcRow xs q) xs (q + 1) k (t + 1) = bcS (bcRow xs q) xs (q + 1) k (bcN (bcRow xs q) xs (q + 1) k t) (q + t) := rfl
          obtain ⟨s, hs⟩ : ∃ s, opC .add .f32 (ix (bcRow xs q) (q + t)) (eK xs (q + t) k) = s := ⟨_, rfl⟩
          unfold bcS at hst
          rw [hs] at hst
          rcases Nat.eq_zero_or_pos t with ht0 | ht0
          · rw [if_pos (Or.inl (by omega))] at hst
            have hbq : (((q + t : Nat) : Int) == (q : Nat)) = true := by (simp; omega)
            have hX := bX_set (m := m) hst
            have hY := bY_set (m := m) hst
            repeat' (first
              | ((with_reducible refine hK _ _ ?_); clear hK K)
              | ((with_reducible refine hK _ ?_); clear hK K; try simp only [])
              | ((first | (with_reducible show AOp _ _ _ _ _ _ _) | (with_reducible show AQOp _ _ _ _ _ _ _)); simp (disch := first | ((with_reducible show liveO _ _ _ = true); first | assumption | (exact (liveO_l0 hbl).trans rfl) | (exact (liveO_l0 hq3).trans rfl) | (exact (liveO_l hq3).trans rfl) | (exact liveO_setS (by assumption)) | (exact PtL.live (by assumption)) | (exact PtL.liveA (by assumption) _) | (simp only [go_sem]; done)) | omega | assumption | rfl | (simp only [go_sem]; first | done | omega)) only [go_sem, reduceIte, reduceCtorEq, Nat.reduceAdd, Nat.reduceMul, Nat.reduceSub, Nat.reduceLeDiff, Nat.lt_irrefl, Nat.reduceLT, Nat.reduceEqDiff, Nat.reduceBEq, Int.reduceLE, Int.reduceLT, Int.reduceToNat, w64, eq_self, hbq, hpm, iL, iF, iE, iR, iP, gLp, gLq, gFp, gE, gR, gP, hei, hs, hX, hY, hXk, hput_l0 hq3, hput_l hq3, hget_l0 hq3, hget_l hq3, t1])
              | (with_reducible refine AW_seq (fun K hK => ?_))
              | (with_reducible refine AW_region tyOk ?_)
              | ((with_reducible refine AW_quiet (id := 29) tyOk ?_ ?_ ?_); (kernel_rfl); (kernel_rfl))
              | ((with_reducible apply AW_tree (id := 31) tyOk 16); (kernel_rfl); (exact rfl))
              | ((with_reducible refine AAny_leaf (by decide +kernel) ?_); exact ⟨rfl, rfl⟩)
              | (with_reducible refine AAny_pure 0 rfl rfl (by decide +kernel) (by decide +kernel) (fun K hK => ?_))
              | (with_reducible refine AAny_pure 1 rfl rfl (by decide +kernel) (by decide +kernel) (fun K hK => ?_))
              | (with_reducible refine AAny_pure 4 rfl rfl (by decide +kernel) (by decide +kernel) (fun K hK => ?_))
              | (with_reducible refine AAny_pure 5 rfl rfl (by decide +kernel) (by decide +kernel) (fun K hK => ?_))
              | (with_reducible refine AAny_pure 6 rfl rfl (by decide +kernel) (by decide +kernel) (fun K hK => ?_))
              | (with_reducible refine AAny_pure 9 rfl rfl (by decide +kernel) (by decide +kernel) (fun K hK => ?_))
              | (with_reducible refine AAny_pure 10 rfl rfl (by decide +kernel) (by decide +kernel) (fun K hK => ?_))
              | (with_reducible refine AAny_pure 11 rfl rfl (by decide +kernel) (by decide +kernel) (fun K hK => ?_))
              | (with_reducible refine AAny_step 2 [7] (by decide +kernel) ?_)
              | (with_reducible refine AAny_step 2 [8] (by decide +kernel) ?_)
              | (with_reducible refine AAny_step 3 [7] (by decide +kernel) ?_)
              | (with_reducible refine AAny_step 3 [8] (by decide +kernel) ?_)
              | (with_reducible refine AAny_step 2 [] (by decide +kernel) ?_)
              | (with_reducible refine AAny_step 3 [] (by decide +kernel) ?_)
              | (with_reducible refine AAny_step 7 [] (by decide +kernel) ?_)
              | (with_reducible refine AAny_step 8 [] (by decide +kernel) ?_)
              | (with_reducible refine AAny_step 12 [] (by decide +kernel) ?_)
              | (with_reducible refine AAny_step 13 [] (by decide +kernel) ?_)
              | (with_reducible refine AAny_step 14 [] (by decide +kernel) ?_)
              | (with_reducible refine AAny_step 15 [] (by decide +kernel) ?_)
              | (with_reducible refine AAll_cons rfl (fun K hK => ?_) ?_)
              | (with_reducible exact AAll_nil)
              | ((with_reducible show thenA _ _ _ _ _); simp only [thenA, blockA, if_true, if_false, reduceIte])
              | ((with_reducible show blockA _ _ _ _ _); simp only [thenA, blockA, if_true, if_false, reduceIte, Nat.reduceEqDiff, reduceCtorEq])
              | (with_reducible refine AOps_cons (fun K hK => ?_))
              | (with_reducible refine AQOps_cons (fun K hK => ?_))
              | ((with_reducible refine AQOps_nil ?_); try simp only [thenA, blockA, if_true, if_false, reduceIte, Nat.reduceEqDiff, reduceCtorEq])
              | ((with_reducible refine AOps_nil ?_); try simp only [thenA, blockA, if_true, if_false, reduceIte, Nat.reduceEqDiff, reduceCtorEq])
              | (with_reducible refine AW_block ?_)
              | ((first | (with_reducible refine AW_ret ?_) | (with_reducible refine AW_skip ?_) | (with_reducible refine AW_exit ?_)); try simp only [thenA, blockA, if_true, if_false, reduceIte, Nat.reduceEqDiff, reduceCtorEq])
              | ((with_reducible show AW _ _ (.cond _ _ _) _ _ _); refine AW_cond rfl (fun hg => ?_) (fun hg => ?_) <;> first | (exfalso; simp only [reduceCtorEq] at hg; done) | ((try simp only [Bool.not_eq_true', Bool.not_eq_false', decide_eq_true_eq, decide_eq_false_iff_not] at hg); try (exfalso; omega)))
              | ((with_reducible show _ ∧ _); refine And.intro (fun hg => ?_) (fun hg => ?_) <;> (try simp only [Bool.not_eq_true', Bool.not_eq_false'] at hg) <;> simp only [hg] <;> (try simp only [decide_eq_true_eq, decide_eq_false_iff_not] at hg) <;> (try (exfalso; omega)))
              | ((first | (with_reducible apply FunH_intro) | (with_reducible apply AQ_intro)); (first | exact IsFinite_c _ _ | exact areParts_c _ _ _ _ (by first | assumption | exact RdL.app (by assumption) _ | exact RdL_hj rfl (by simp) | exact RdL_h0 rfl (by simp) | exact RdL_nil | exact RdL_emp) (by first | assumption | omega | (simp; omega) | (simp; done)) | exact cutError_c _ _ _ (by first | assumption | exact RdL.app (by assumption) _ | exact RdL_hj rfl (by simp) | exact RdL_h0 rfl (by simp) | exact RdL_nil | exact RdL_emp) (by first | assumption | omega | (simp; omega) | (simp; done))))
              | (clear hK K)
              | fail)
            refine hK _ _ (t + 1) (by omega) (by omega) ?_ rfl
            simp only [junkAll, setAll, List.foldl_cons, List.foldl_nil, List.set_cons_succ, List.set_cons_zero, JL, true_or, or_true, and_true, true_and, reduceCtorEq, false_or, or_false, LV.int.injEq, LV.bool.injEq, LV.flt.injEq, LV.sl.injEq, LV.ptr.injEq, eq_self, Int.natCast_add, Int.natCast_one, Int.natCast_zero, Int.ofNat_zero]; omega
          · have hne : ¬ (q + t = q + 1 - 1) := by omega
            have hbq : (((q + t : Nat) : Int) == (q : Nat)) = false := by (simp; omega)
            cases hlt : fLt .f32 s (bcN (bcRow xs q) xs (q + 1) k t).1
            · rw [if_neg (fun h => h.elim hne (fun h => by rw [hlt] at h; cases h))] at hst
              have hX := bX_same (m := m) hst
              have hY := bY_same (m := m) hst
              repeat' (first
                | ((with_reducible refine hK _ _ ?_); clear hK K)
                | ((with_reducible refine hK _ ?_); clear hK K; try simp only [])
                | ((first | (with_reducible show AOp _ _ _ _ _ _ _) | (with_reducible show AQOp _ _ _ _ _ _ _)); simp (disch := first | ((with_reducible show liveO _ _ _ = true); first | assumption | (exact (liveO_l0 hbl).trans rfl) | (exact (liveO_l0 hq3).trans rfl) | (exact (liveO_l hq3).trans rfl) | (exact liveO_setS (by assumption)) | (exact PtL.live (by assumption)) | (exact PtL.liveA (by assumption) _) | (simp only [go_sem]; done)) | omega | assumption | rfl | (simp only [go_sem]; first | done | omega)) only [go_sem, reduceIte, reduceCtorEq, Nat.reduceAdd, Nat.reduceMul, Nat.reduceSub, Nat.reduceLeDiff, Nat.lt_irrefl, Nat.reduceLT, Nat.reduceEqDiff, Nat.reduceBEq, Int.reduceLE, Int.reduceLT, Int.reduceToNat, w64, eq_self, hbq, hpm, iL, iF, iE, iR, iP, gLp, gLq, gFp, gE, gR, gP, hei, hs, hlt, hXk, hput_l0 hq3, hput_l hq3, hget_l0 hq3, hget_l hq3, t1])
                | (with_reducible refine AW_seq (fun K hK => ?_))
                | (with_reducible refine AW_region tyOk ?_)
                | ((with_reducible refine AW_quiet (id := 29) tyOk ?_ ?_ ?_); (kernel_rfl); (kernel_rfl))
                | ((with_reducible apply AW_tree (id := 31) tyOk 16); (kernel_rfl); (exact rfl))
                | ((with_reducible refine AAny_leaf (by decide +kernel) ?_); exact ⟨rfl, rfl⟩)
                | (with_reducible refine AAny_pure 0 rfl rfl (by decide +kernel) (by decide +kernel) (fun K hK => ?_))
                | (with_reducible refine AAny_pure 1 rfl rfl (by decide +kernel) (by decide +kernel) (fun K hK => ?_))
                | (with_reducible refine AAny_pure 4 rfl rfl (by decide +kernel) (by decide +kernel) (fun K hK => ?_))
                | (with_reducible refine AAny_pure 5 rfl rfl (by decide +kernel) (by decide +kernel) (fun K hK => ?_))
                | (with_reducible refine AAny_pure 6 rfl rfl (by decide +kernel) (by decide +kernel) (fun K hK => ?_))
                | (with_reducible refine AAny_pure 9 rfl rfl (by decide +kernel) (by decide +kernel) (fun K hK => ?_))
                | (with_reducible refine AAny_pure 10 rfl rfl (by decide +kernel) (by decide +kernel) (fun K hK => ?_))
                | (with_reducible refine AAny_pure 11 rfl rfl (by decide +kernel) (by decide +kernel) (fun K hK => ?_))
                | (with_reducible refine AAny_step 2 [7] (by decide +kernel) ?_)
                | (with_reducible refine AAny_step 2 [8] (by decide +kernel) ?_)
                | (with_reducible refine AAny_step 3 [7] (by decide +kernel) ?_)
                | (with_reducible refine AAny_step 3 [8] (by decide +kernel) ?_)
                | (with_reducible refine AAny_step 2 [] (by decide +kernel) ?_)
                | (with_reducible refine AAny_step 3 [] (by decide +kernel) ?_)
                | (with_reducible refine AAny_step 7 [] (by decide +kernel) ?_)
                | (with_reducible refine AAny_step 8 [] (by decide +kernel) ?_)
                | (with_reducible refine AAny_step 12 [] (by decide +kernel) ?_)
                | (with_reducible refine AAny_step 13 [] (by decide +kernel) ?_)
                | (with_reducible refine AAny_step 14 [] (by decide +kernel) ?_)
                | (with_reducible refine AAny_step 15 [] (by decide +kernel) ?_)
                | (with_reducible refine AAll_cons rfl (fun K hK => ?_) ?_)
                | (with_reducible exact AAll_nil)
                | ((with_reducible show thenA _ _ _ _ _); simp only [thenA, blockA, if_true, if_false, reduceIte])
                | ((with_reducible show blockA _ _ _ _ _); simp only [thenA, blockA, if_true, if_false, reduceIte, Nat.reduceEqDiff, reduceCtorEq])
                | (with_reducible refine AOps_cons (fun K hK => ?_))
                | (with_reducible refine AQOps_cons (fun K hK => ?_))
                | ((with_reducible refine AQOps_nil ?_); try simp only [thenA, blockA, if_true, if_false, reduceIte, Nat.reduceEqDiff, reduceCtorEq])
                | ((with_reducible refine AOps_nil ?_); try simp only [thenA, blockA, if_true, if_false, reduceIte, Nat.reduceEqDiff, reduceCtorEq])
                | (with_reducible refine AW_block ?_)
                | ((first | (with_reducible refine AW_ret ?_) | (with_reducible refine AW_skip ?_) | (with_reducible refine AW_exit ?_)); try simp only [thenA, blockA, if_true, if_false, reduceIte, Nat.reduceEqDiff, reduceCtorEq])
                | ((with_reducible show AW _ _ (.cond _ _ _) _ _ _); refine AW_cond rfl (fun hg => ?_) (fun hg => ?_) <;> first | (exfalso; simp only [reduceCtorEq] at hg; done) | ((try simp only [Bool.not_eq_true', Bool.not_eq_false', decide_eq_true_eq, decide_eq_false_iff_not] at hg); try (exfalso; omega)))
                | ((with_reducible show _ ∧ _); refine And.intro (fun hg => ?_) (fun hg => ?_) <;> (try simp only [Bool.not_eq_true', Bool.not_eq_false'] at hg) <;> simp only [hg] <;> (try simp only [decide_eq_true_eq, decide_eq_false_iff_not] at hg) <;> (try (exfalso; omega)))
                | ((first | (with_reducible apply FunH_intro) | (with_reducible apply AQ_intro)); (first | exact IsFinite_c _ _ | exact areParts_c _ _ _ _ (by first | assumption | exact RdL.app (by assumption) _ | exact RdL_hj rfl (by simp) | exact RdL_h0 rfl (by simp) | exact RdL_nil | exact RdL_emp) (by first | assumption | omega | (simp; omega) | (simp; done)) | exact cutError_c _ _ _ (by first | assumption | exact RdL.app (by assumption) _ | exact RdL_hj rfl (by simp) | exact RdL_h0 rfl (by simp) | exact RdL_nil | exact RdL_emp) (by first | assumption | omega | (simp; omega) | (simp; done))))
                | (clear hK K)
                | fail)
              refine hK _ _ (t + 1) (by omega) (by omega) ?_ (by simp only [← hX, ← hY])
              simp only [junkAll, setAll, List.foldl_cons, List.foldl_nil, List.set_cons_succ, List.set_cons_zero, JL, true_or, or_true, and_true, true_and, reduceCtorEq, false_or, or_false, LV.int.injEq, LV.bool.injEq, LV.flt.injEq, LV.sl.injEq, LV.ptr.injEq, eq_self, Int.natCast_add, Int.natCast_one, Int.natCast_zero, Int.ofNat_zero]; omega
            · rw [if_pos (Or.inr hlt)] at hst
              have hX := bX_set (m := m) hst
              have hY := bY_set (m := m) hst
              repeat' (first
                | ((with_reducible refine hK _ _ ?_); clear hK K)
                | ((with_reducible refine hK _ ?_); clear hK K; try simp only [])
                | ((first | (with_reducible show AOp _ _ _ _ _ _ _) | (with_reducible show AQOp _ _ _ _ _ _ _)); simp (disch := first | ((with_reducible show liveO _ _ _ = true); first | assumption | (exact (liveO_l0 hbl).trans rfl) | (exact (liveO_l0 hq3).trans rfl) | (exact (liveO_l hq3).trans rfl) | (exact liveO_setS (by assumption)) | (exact PtL.live (by assumption)) | (exact PtL.liveA (by assumption) _) | (simp only [go_sem]; done)) | omega | assumption | rfl | (simp only [go_sem]; first | done | omega)) only [go_sem, reduceIte, reduceCtorEq, Nat.reduceAdd, Nat.reduceMul, Nat.reduceSub, Nat.reduceLeDiff, Nat.lt_irrefl, Nat.reduceLT, Nat.reduceEqDiff, Nat.reduceBEq, Int.reduceLE, Int.reduceLT, Int.reduceToNat, w64, eq_self, hbq, hpm, iL, iF, iE, iR, iP, gLp, gLq, gFp, gE, gR, gP, hei, hs, hlt, hX, hY, hXk, hput_l0 hq3, hput_l hq3, hget_l0 hq3, hget_l hq3, t1])
                | (with_reducible refine AW_seq (fun K hK => ?_))
                | (with_reducible refine AW_region tyOk ?_)
                | ((with_reducible refine AW_quiet (id := 29) tyOk ?_ ?_ ?_); (kernel_rfl); (kernel_rfl))
                | ((with_reducible apply AW_tree (id := 31) tyOk 16); (kernel_rfl); (exact rfl))
                | ((with_reducible refine AAny_leaf (by decide +kernel) ?_); exact ⟨rfl, rfl⟩)
                | (with_reducible refine AAny_pure 0 rfl rfl (by decide +kernel) (by decide +kernel) (fun K hK => ?_))
                | (with_reducible refine AAny_pure 1 rfl rfl (by decide +kernel) (by decide +kernel) (fun K hK => ?_))
                | (with_reducible refine AAny_pure 4 rfl rfl (by decide +kernel) (by decide +kernel) (fun K hK => ?_))
                | (with_reducible refine AAny_pure 5 rfl rfl (by decide +kernel) (by decide +kernel) (fun K hK => ?_))
                | (with_reducible refine AAny_pure 6 rfl rfl (by decide +kernel) (by decide +kernel) (fun K hK => ?_))
                | (with_reducible refine AAny_pure 9 rfl rfl (by decide +kernel) (by decide +kernel) (fun K hK => ?_))
                | (with_reducible refine AAny_pure 10 rfl rfl (by decide +kernel) (by decide +kernel) (fun K hK => ?_))
                | (with_reducible refine AAny_pure 11 rfl rfl (by decide +kernel) (by decide +kernel) (fun K hK => ?_))
                | (with_reducible refine AAny_step 2 [7] (by decide +kernel) ?_)
                | (with_reducible refine AAny_step 2 [8] (by decide +kernel) ?_)
                | (with_reducible refine AAny_step 3 [7] (by decide +kernel) ?_)
                | (with_reducible refine AAny_step 3 [8] (by decide +kernel) ?_)
                | (with_reducible refine AAny_step 2 [] (by decide +kernel) ?_)
                | (with_reducible refine AAny_step 3 [] (by decide +kernel) ?_)
                | (with_reducible refine AAny_step 7 [] (by decide +kernel) ?_)
                | (with_reducible refine AAny_step 8 [] (by decide +kernel) ?_)
                | (with_reducible refine AAny_step 12 [] (by decide +kernel) ?_)
                | (with_reducible refine AAny_step 13 [] (by decide +kernel) ?_)
                | (with_reducible refine AAny_step 14 [] (by decide +kernel) ?_)
                | (with_reducible refine AAny_step 15 [] (by decide +kernel) ?_)
                | (with_reducible refine AAll_cons rfl (fun K hK => ?_) ?_)
                | (with_reducible exact AAll_nil)
                | ((with_reducible show thenA _ _ _ _ _); simp only [thenA, blockA, if_true, if_false, reduceIte])
                | ((with_reducible show blockA _ _ _ _ _); simp only [thenA, blockA, if_true, if_false, reduceIte, Nat.reduceEqDiff, reduceCtorEq])
                | (with_reducible refine AOps_cons (fun K hK => ?_))
                | (with_reducible refine AQOps_cons (fun K hK => ?_))
                | ((with_reducible refine AQOps_nil ?_); try simp only [thenA, blockA, if_true, if_false, reduceIte, Nat.reduceEqDiff, reduceCtorEq])
                | ((with_reducible refine AOps_nil ?_); try simp only [thenA, blockA, if_true, if_false, reduceIte, Nat.reduceEqDiff, reduceCtorEq])
                | (with_reducible refine AW_block ?_)
                | ((first | (with_reducible refine AW_ret ?_) | (with_reducible refine AW_skip ?_) | (with_reducible refine AW_exit ?_)); try simp only [thenA, blockA, if_true, if_false, reduceIte, Nat.reduceEqDiff, reduceCtorEq])
                | ((with_reducible show AW _ _ (.cond _ _ _) _ _ _); refine AW_cond rfl (fun hg => ?_) (fun hg => ?_) <;> first | (exfalso; simp only [reduceCtorEq] at hg; done) | ((try simp only [Bool.not_eq_true', Bool.not_eq_false', decide_eq_true_eq, decide_eq_false_iff_not] at hg); try (exfalso; omega)))
                | ((with_reducible show _ ∧ _); refine And.intro (fun hg => ?_) (fun hg => ?_) <;> (try simp only [Bool.not_eq_true', Bool.not_eq_false'] at hg) <;> simp only [hg] <;> (try simp only [decide_eq_true_eq, decide_eq_false_iff_not] at hg) <;> (try (exfalso; omega)))
                | ((first | (with_reducible apply FunH_intro) | (with_reducible apply AQ_intro)); (first | exact IsFinite_c _ _ | exact areParts_c _ _ _ _ (by first | assumption | exact RdL.app (by assumption) _ | exact RdL_hj rfl (by simp) | exact RdL_h0 rfl (by simp) | exact RdL_nil | exact RdL_emp) (by first | assumption | omega | (simp; omega) | (simp; done)) | exact cutError_c _ _ _ (by first | assumption | exact RdL.app (by assumption) _ | exact RdL_hj rfl (by simp) | exact RdL_h0 rfl (by simp) | exact RdL_nil | exact RdL_emp) (by first | assumption | omega | (simp; omega) | (simp; done))))
                | (clear hK K)
                | fail)
              refine hK _ _ (t + 1) (by omega) (by omega) ?_ rfl
              simp only [junkAll, setAll, List.foldl_cons, List.foldl_nil, List.set_cons_succ, List.set_cons_zero, JL, true_or, or_true, and_true, true_and, reduceCtorEq, false_or, or_false, LV.int.injEq, LV.bool.injEq, LV.flt.injEq, LV.sl.injEq, LV.ptr.injEq, eq_self, Int.natCast_add, Int.natCast_one, Int.natCast_zero, Int.ofNat_zero]; omega
        · have hte : t = k - q := by omega
          have hX := bX_end (xs := xs) (q := q) hkl (by omega) (by omega)
          have hY := bY_end (xs := xs) (q := q) hkl (by omega) (by omega)
          rw [← hte] at hX hY
          repeat' (first
            | ((with_reducible refine hK _ _ ?_); clear hK K)
            | ((first | (with_reducible show AOp _ _ _ _ _ _ _)); simp (disch := first | ((with_reducible show liveO _ _ _ = true); first | assumption | (exact (liveO_l0 hbl).trans rfl) | (exact (liveO_l0 hq3).trans rfl) | (exact (liveO_l hq3).trans rfl) | (exact liveO_setS (by assumption)) | (exact PtL.live (by assumption)) | (exact PtL.liveA (by assumption) _) | (simp only [go_sem]; done)) | omega | assumption | rfl | (simp only [go_sem]; first | done | omega)) only [go_sem, reduceIte, reduceCtorEq, Nat.reduceAdd, Nat.reduceMul, Nat.reduceSub, Nat.reduceLeDiff, Nat.lt_irrefl, Nat.reduceLT, Nat.reduceEqDiff, Nat.reduceBEq, Int.reduceLE, Int.reduceLT, Int.reduceToNat, w64, eq_self])
            | (with_reducible refine AW_seq (fun K hK => ?_))
            | (with_reducible refine AW_region tyOk ?_)
            | (with_reducible refine AOps_cons (fun K hK => ?_))
            | ((with_reducible refine AOps_nil ?_); try simp only [thenA, blockA, if_true, if_false, reduceIte, Nat.reduceEqDiff, reduceCtorEq])
            | (with_reducible refine AW_block ?_)
            | ((first | (with_reducible refine AW_ret ?_) | (with_reducible refine AW_skip ?_) | (with_reducible refine AW_exit ?_)); try simp only [thenA, blockA, if_true, if_false, reduceIte, Nat.reduceEqDiff, reduceCtorEq])
            | ((with_reducible show AW _ _ (.cond _ _ _) _ _ _); refine AW_cond rfl (fun hg => ?_) (fun hg => ?_) <;> first | (exfalso; simp only [reduceCtorEq] at hg; done) | ((try simp only [Bool.not_eq_true', Bool.not_eq_false', decide_eq_true_eq, decide_eq_false_iff_not] at hg); try (exfalso; omega)))
            | ((with_reducible show _ ∧ _); refine And.intro (fun hg => ?_) (fun hg => ?_) <;> (try simp only [Bool.not_eq_true', Bool.not_eq_false'] at hg) <;> simp only [hg] <;> (try simp only [decide_eq_true_eq, decide_eq_false_iff_not] at hg) <;> (try (exfalso; omega)))
            | ((with_reducible apply FunH_intro); (first | exact IsFinite_c _ _ | exact areParts_c _ _ _ _ (by first | assumption | exact RdL.app (by assumption) _ | exact RdL_hj rfl (by simp) | exact RdL_h0 rfl (by simp) | exact RdL_nil | exact RdL_emp) (by first | assumption | omega | (simp; omega) | (simp; done)) | exact cutError_c _ _ _ (by first | assumption | exact RdL.app (by assumption) _ | exact RdL_hj rfl (by simp) | exact RdL_h0 rfl (by simp) | exact RdL_nil | exact RdL_emp) (by first | assumption | omega | (simp; omega) | (simp; done))))
            | (clear hK K)
            | fail)
          refine hK _ _ (k + 1) (by omega) (by omega) ?_ (by simp only [hX, hY])
          simp only [junkAll, setAll, List.foldl_cons, List.foldl_nil, List.set_cons_succ, List.set_cons_zero, JL, true_or, or_true, and_true, true_and, reduceCtorEq, false_or, or_false, LV.int.injEq, LV.bool.injEq, LV.flt.injEq, LV.sl.injEq, LV.ptr.injEq, eq_self, Int.natCast_add, Int.natCast_one, Int.natCast_zero, Int.ofNat_zero]
    · have hkm : m = k := by omega
      subst hkm
      have hX := bcRow_upd (q := q) hx3
      have hY := bcFrom_upd (q := q) hx3
      repeat' (first
        | ((with_reducible refine hK _ _ ?_); clear hK K)
        | ((first | (with_reducible show AOp _ _ _ _ _ _ _)); simp (disch := first | ((with_reducible show liveO _ _ _ = true); first | assumption | (exact (liveO_l0 hbl).trans rfl) | (exact (liveO_l0 hq3).trans rfl) | (exact (liveO_l hq3).trans rfl) | (exact liveO_setS (by assumption)) | (exact PtL.live (by assumption)) | (exact PtL.liveA (by assumption) _) | (simp only [go_sem]; done)) | omega | assumption | rfl | (simp only [go_sem]; first | done | omega)) only [go_sem, reduceIte, reduceCtorEq, Nat.reduceAdd, Nat.reduceMul, Nat.reduceSub, Nat.reduceLeDiff, Nat.lt_irrefl, Nat.reduceLT, Nat.reduceEqDiff, Nat.reduceBEq, Int.reduceLE, Int.reduceLT, Int.reduceToNat, w64, eq_self])
        | (with_reducible refine AW_seq (fun K hK => ?_))
        | (with_reducible refine AW_region tyOk ?_)
        | (with_reducible refine AOps_cons (fun K hK => ?_))
        | ((with_reducible refine AOps_nil ?_); try simp only [thenA, blockA, if_true, if_false, reduceIte, Nat.reduceEqDiff, reduceCtorEq])
        | (with_reducible refine AW_block ?_)
        | ((first | (with_reducible refine AW_ret ?_) | (with_reducible refine AW_skip ?_) | (with_reducible refine AW_exit ?_)); try simp only [thenA, blockA, if_true, if_false, reduceIte, Nat.reduceEqDiff, reduceCtorEq])
        | ((with_reducible show AW _ _ (.cond _ _ _) _ _ _); refine AW_cond rfl (fun hg => ?_) (fun hg => ?_) <;> first | (exfalso; simp only [reduceCtorEq] at hg; done) | ((try simp only [Bool.not_eq_true', Bool.not_eq_false', decide_eq_true_eq, decide_eq_false_iff_not] at hg); try (exfalso; omega)))
        | ((with_reducible show _ ∧ _); refine And.intro (fun hg => ?_) (fun hg => ?_) <;> (try simp only [Bool.not_eq_true', Bool.not_eq_false'] at hg) <;> simp only [hg] <;> (try simp only [decide_eq_true_eq, decide_eq_false_iff_not] at hg) <;> (try (exfalso; omega)))
        | ((with_reducible apply FunH_intro); (first | exact IsFinite_c _ _ | exact areParts_c _ _ _ _ (by first | assumption | exact RdL.app (by assumption) _ | exact RdL_hj rfl (by simp) | exact RdL_h0 rfl (by simp) | exact RdL_nil | exact RdL_emp) (by first | assumption | omega | (simp; omega) | (simp; done)) | exact cutError_c _ _ _ (by first | assumption | exact RdL.app (by assumption) _ | exact RdL_hj rfl (by simp) | exact RdL_h0 rfl (by simp) | exact RdL_nil | exact RdL_emp) (by first | assumption | omega | (simp; omega) | (simp; done))))
        | (clear hK K)
        | fail)
      refine hK _ _ (p + 1, R ++ [⟨0, false, 37, 1, (upd (gL xs q) (some 0) m m).map (LV.flt .f32)⟩, ⟨0, false, 3, 1, (upd (gF xs q) 0 m m).map (LV.int .i64)⟩]) ⟨by simp only; omega, by simp [hRl]; omega, hnext _ _ (by rw [hX, hpe]) (by rw [hY, hpe])⟩ (by simp only; omega) ?_ ?_
      · simp only [junkAll, setAll, List.foldl_cons, List.foldl_nil, List.set_cons_succ, List.set_cons_zero, JL, true_or, or_true, and_true, true_and, reduceCtorEq, false_or, or_false, LV.int.injEq, LV.bool.injEq, LV.flt.injEq, LV.sl.injEq, LV.ptr.injEq, eq_self, Int.natCast_add, Int.natCast_one, Int.natCast_zero, Int.ofNat_zero]
      · rw [hend]
  have hpQ : Q = p := by omega
  subst hpQ
  obtain ⟨B4, hB4⟩ : ∃ B4, B4 = B ++ (⟨0, false, 22, 1, upd (lCell B.length m) LV.nils Q Q⟩ :: ⟨0, false, 129, 1, upd (fCell B.length m) LV.nils Q Q⟩ :: R) := ⟨_, rfl⟩
  rw [← hB4]
  have hx4 : xs.length + 1 = m := by omega
  have hL4 : B4[B.length]? = some ⟨0, false, 22, 1, upd (lCell B.length m) LV.nils Q Q⟩ := by rw [hB4]; exact (hp_get0 _ _).trans rfl
  have hF4 : B4[B.length + 1]? = some ⟨0, false, 129, 1, upd (fCell B.length m) LV.nils Q Q⟩ := by rw [hB4]; exact (hp_getj _ _ _).trans rfl
  have hP4 : B4[B.length + (2 * P + 2)]? = some ⟨0, false, 37, 1, (bcRow xs P).map (LV.flt .f32)⟩ := by rw [hB4]; exact (hp_getj _ _ _).trans (hRr P (by omega)).1
  have hQ4 : ∀ j, j < Q → B4[B.length + (2 * j + 3)]? = some ⟨0, false, 3, 1, (bcFrom xs j).map (LV.int .i64)⟩ := fun j hj => by rw [hB4]; exact (hp_getj _ _ _).trans (hRr j hj).2
  have cL4 : (upd (lCell B.length m) LV.nils Q Q)[P]? = some (.sl (B.length + (2 * P + 2)) 0 0 m none) := by rw [upd_get (by omega), if_pos (by omega)]; rfl
  have cF4 : ∀ j, j < Q → (upd (fCell B.length m) LV.nils Q Q)[j]? = some (.sl (B.length + (2 * j + 3)) 0 0 m none) := fun j hj => by rw [upd_get hj, if_pos hj]; rfl
  have cP4 : ((bcRow xs P).map (LV.flt .f32))[n]? = some (.flt .f32 (ix (bcRow xs P) n)) := by rw [List.getElem?_map, ix_get? (bcRow xs P) n (by rw [bcRow_len]; omega)]; rfl
  obtain ⟨K5, hK5⟩ : ∃ K5, B4 = H ++ K5 := ⟨K4 ++ (⟨0, false, 22, 1, upd (lCell B.length m) LV.nils Q Q⟩ :: ⟨0, false, 129, 1, upd (fCell B.length m) LV.nils Q Q⟩ :: R), by rw [hB4, ← List.append_assoc, ← hK4]⟩
  have hB4l : B4.length = H.length + K5.length := by rw [hK5]; simp
  have jL := fun i => idx_at0 hL4 (n := Q) (by rw [upd_len]; exact Nat.le_refl _) (i := i)
  have jP := fun i => idx_at0 hP4 (n := m) (by rw [List.length_map, bcRow_len]; omega) (i := i)
  have jLg := (get_at0 hL4 P).trans cL4
  have jPg := (get_at0 hP4 n).trans cP4
  have t2 : ((P : Nat) : Int).toNat = P := by omega
  have t3 : ((n : Nat) : Int).toNat = n := by omega
  clear hB4 hRr hR hcE hcR hE
  cases e5 : finO (ix (bcRow xs P) n)
  · simp only [Bool.false_eq_true, if_false]
    repeat' (first
      | ((with_reducible refine hK _ _ ?_); clear hK K)
      | ((first | (with_reducible show AOp _ _ _ _ _ _ _)); simp (disch := first | ((with_reducible show liveO _ _ _ = true); first | assumption | (exact (liveO_l0 hbl).trans rfl) | (exact (liveO_l0 hq3).trans rfl) | (exact (liveO_l hq3).trans rfl) | (exact liveO_setS (by assumption)) | (exact PtL.live (by assumption)) | (exact PtL.liveA (by assumption) _) | (simp only [go_sem]; done)) | omega | assumption | rfl | (simp only [go_sem]; first | done | omega)) only [go_sem, reduceIte, reduceCtorEq, Nat.reduceAdd, Nat.reduceMul, Nat.reduceSub, Nat.reduceLeDiff, Nat.lt_irrefl, Nat.reduceLT, Nat.reduceEqDiff, Nat.reduceBEq, Int.reduceLE, Int.reduceLT, Int.reduceToNat, w64, eq_self, e5, jL, jP, jLg, jPg, t2, t3])
      | (with_reducible refine AW_seq (fun K hK => ?_))
      | (with_reducible refine AW_region tyOk ?_)
      | (with_reducible refine AOps_cons (fun K hK => ?_))
      | ((with_reducible refine AOps_nil ?_); try simp only [thenA, blockA, if_true, if_false, reduceIte, Nat.reduceEqDiff, reduceCtorEq])
      | (with_reducible refine AW_block ?_)
      | ((first | (with_reducible refine AW_ret ?_) | (with_reducible refine AW_skip ?_) | (with_reducible refine AW_exit ?_)); try simp only [thenA, blockA, if_true, if_false, reduceIte, Nat.reduceEqDiff, reduceCtorEq])
      | ((with_reducible show AW _ _ (.cond _ _ _) _ _ _); refine AW_cond rfl (fun hg => ?_) (fun hg => ?_) <;> first | (exfalso; simp only [reduceCtorEq] at hg; done) | ((try simp only [Bool.not_eq_true', Bool.not_eq_false', decide_eq_true_eq, decide_eq_false_iff_not] at hg); try (exfalso; omega)))
      | ((with_reducible show _ ∧ _); refine And.intro (fun hg => ?_) (fun hg => ?_) <;> (try simp only [Bool.not_eq_true', Bool.not_eq_false'] at hg) <;> simp only [hg] <;> (try simp only [decide_eq_true_eq, decide_eq_false_iff_not] at hg) <;> (try (exfalso; omega)))
      | ((with_reducible apply FunH_intro); (first | exact IsFinite_c _ _ | exact areParts_c _ _ _ _ (by first | assumption | exact RdL.app (by assumption) _ | exact RdL_hj rfl (by simp) | exact RdL_h0 rfl (by simp) | exact RdL_nil | exact RdL_emp) (by first | assumption | omega | (simp; omega) | (simp; done)) | exact cutError_c _ _ _ (by first | assumption | exact RdL.app (by assumption) _ | exact RdL_hj rfl (by simp) | exact RdL_h0 rfl (by simp) | exact RdL_nil | exact RdL_emp) (by first | assumption | omega | (simp; omega) | (simp; done))))
      | (clear hK K)
      | fail)
    rw [hK5]
    refine EndA_rows [none] hcl (by first | exact Or.inr rfl | exact Or.inl rfl) (by simp only [Try.results46, resA, aresL, go_sem] <;> rfl) (by simp) ?_ ?_ ⟨rfl, rfl⟩
    · rw [e5]
      exact ⟨RowOk.none, trivial⟩
    · rw [e5]
      exact TdT.tup ⟨TdL.cell (TdB.virt 0 rfl), TdL.cell (TdB.old _ trivial rfl), TdL.cell (TdB.old _ trivial rfl), trivial⟩
  simp only [reduceIte]
  repeat' (first
    | ((with_reducible refine hK _ _ ?_); clear hK K)
    | ((first | (with_reducible show AOp _ _ _ _ _ _ _)); simp (disch := first | ((with_reducible show liveO _ _ _ = true); first | assumption | (exact (liveO_l0 hbl).trans rfl) | (exact (liveO_l0 hq3).trans rfl) | (exact (liveO_l hq3).trans rfl) | (exact liveO_setS (by assumption)) | (exact PtL.live (by assumption)) | (exact PtL.liveA (by assumption) _) | (simp only [go_sem]; done)) | omega | assumption | rfl | (simp only [go_sem]; first | done | omega)) only [go_sem, reduceIte, reduceCtorEq, Nat.reduceAdd, Nat.reduceMul, Nat.reduceSub, Nat.reduceLeDiff, Nat.lt_irrefl, Nat.reduceLT, Nat.reduceEqDiff, Nat.reduceBEq, Int.reduceLE, Int.reduceLT, Int.reduceToNat, w64, eq_self, e5, jL, jP, jLg, jPg, t2, t3, mkO])
    | (with_reducible refine AW_seq (fun K hK => ?_))
    | (with_reducible refine AW_region tyOk ?_)
    | (with_reducible refine AOps_cons (fun K hK => ?_))
    | ((with_reducible refine AOps_nil ?_); try simp only [thenA, blockA, if_true, if_false, reduceIte, Nat.reduceEqDiff, reduceCtorEq])
    | (with_reducible refine AW_block ?_)
    | ((first | (with_reducible refine AW_ret ?_) | (with_reducible refine AW_skip ?_) | (with_reducible refine AW_exit ?_)); try simp only [thenA, blockA, if_true, if_false, reduceIte, Nat.reduceEqDiff, reduceCtorEq])
    | ((with_reducible show AW _ _ (.cond _ _ _) _ _ _); refine AW_cond rfl (fun hg => ?_) (fun hg => ?_) <;> first | (exfalso; simp only [reduceCtorEq] at hg; done) | ((try simp only [Bool.not_eq_true', Bool.not_eq_false', decide_eq_true_eq, decide_eq_false_iff_not] at hg); try (exfalso; omega)))
    | ((with_reducible show _ ∧ _); refine And.intro (fun hg => ?_) (fun hg => ?_) <;> (try simp only [Bool.not_eq_true', Bool.not_eq_false'] at hg) <;> simp only [hg] <;> (try simp only [decide_eq_true_eq, decide_eq_false_iff_not] at hg) <;> (try (exfalso; omega)))
    | ((with_reducible apply FunH_intro); (first | exact IsFinite_c _ _ | exact areParts_c _ _ _ _ (by first | assumption | exact RdL.app (by assumption) _ | exact RdL_hj rfl (by simp) | exact RdL_h0 rfl (by simp) | exact RdL_nil | exact RdL_emp) (by first | assumption | omega | (simp; omega) | (simp; done)) | exact cutError_c _ _ _ (by first | assumption | exact RdL.app (by assumption) _ | exact RdL_hj rfl (by simp) | exact RdL_h0 rfl (by simp) | exact RdL_nil | exact RdL_emp) (by first | assumption | omega | (simp; omega) | (simp; done))))
    | (clear hK K)
    | fail)
  refine AW_loopV [18, 19, 178, 179, 180, 181, 182, 183, 184, 185, 186, 187, 188, 189, 190, 191, 192, 193] (fun w : Nat => [(18, .int .i64 (bcC xs P (P - w) : Nat)), (19, .int .i64 (w : Nat))]) (fun w => B4 ++ [⟨0, false, 2, 1, (bcOut xs P (P - w)).map (LV.int .i64)⟩]) (fun w => 1 ≤ w ∧ w ≤ P) (fun w => w) P ⟨by omega, Nat.le_refl _⟩ ?_ ?_ ?_
  · simp only [junkAll, setAll, List.foldl_cons, List.foldl_nil, List.set_cons_succ, List.set_cons_zero, JL, true_or, or_true, and_true, true_and, reduceCtorEq, false_or, or_false, LV.int.injEq, LV.bool.injEq, LV.flt.injEq, LV.sl.injEq, LV.ptr.injEq, eq_self, Int.natCast_add, Int.natCast_one, Int.natCast_zero, Int.ofNat_zero]; rw [Nat.sub_self]; (first | rfl | (show _ = _; rw [← hnn]; rfl))
  · rw [Nat.sub_self, bcOut_zero]; simp
  intro w ⟨hw0, hw⟩ K hK
  obtain ⟨t, ht⟩ : ∃ t, P - w = t := ⟨_, rfl⟩
  have hcl1 := bcC_le xs P t
  have iF := fun L i => idx_at hF4 (n := Q) (by rw [upd_len]; exact Nat.le_refl _) L (i := i)
  have iL := fun L i => idx_at hL4 (n := Q) (by rw [upd_len]; exact Nat.le_refl _) L (i := i)
  have iP := fun L i => idx_at hP4 (n := m) (by rw [List.length_map, bcRow_len]; omega) L (i := i)
  have iQ := fun L i => idx_at (hQ4 w (by omega)) (n := m) (by rw [List.length_map, bcFrom_len]; omega) L (i := i)
  have gF := fun L => (get_at hF4 L w).trans (cF4 w (by omega))
  have gLg := fun L => (get_at hL4 L P).trans cL4
  have gPg := fun L => (get_at hP4 L n).trans cP4
  have hcc : ((bcFrom xs w).map (LV.int .i64))[bcC xs P t]? = some (.int .i64 (bcC xs P (t + 1) : Nat)) := by
    rw [List.getElem?_map, ix_get? (bcFrom xs w) _ (by rw [bcFrom_len]; omega)]
    have := bcC_succ xs P t
    rw [show P - t = w by omega] at this
    rw [this]; rfl
  have gQ := fun L => (get_at (hQ4 w (by omega)) L (bcC xs P t)).trans hcc
  have t4 : ((w : Nat) : Int).toNat = w := by omega
  have t5 : ((bcC xs P t : Nat) : Int).toNat = bcC xs P t := by omega
  have t6 : ((w : Int) - 2).toNat = w - 2 := by omega
  have hol : (bcOut xs P t).length = P - 1 := bcOut_len _ _ _
  have hol2 : ((bcOut xs P t).map (LV.int .i64)).length = P - 1 := by rw [List.length_map]; exact hol
  simp only [junkAll, setAll, List.foldl_cons, List.foldl_nil, List.set_cons_succ, List.set_cons_zero]
  rw [ht]
  by_cases hw1 : 1 < w
  · have hset : ((bcOut xs P t).map (LV.int .i64)).set (w - 2) (.int .i64 (bcC xs P (t + 1) : Nat)) = (bcOut xs P (t + 1)).map (LV.int .i64) := by
      rw [← bcOut_set (by omega), List.map_set, show P - 2 - t = w - 2 by omega]
    repeat' (first
      | ((with_reducible refine hK _ _ ?_); clear hK K)
      | ((first | (with_reducible show AOp _ _ _ _ _ _ _)); simp (disch := first | ((with_reducible show liveO _ _ _ = true); first | assumption | (exact (liveO_l0 hbl).trans rfl) | (exact (liveO_l0 hq3).trans rfl) | (exact (liveO_l hq3).trans rfl) | (exact liveO_setS (by assumption)) | (exact PtL.live (by assumption)) | (exact PtL.liveA (by assumption) _) | (simp only [go_sem]; done)) | omega | assumption | rfl | (simp only [go_sem]; first | done | omega)) only [go_sem, reduceIte, reduceCtorEq, Nat.reduceAdd, Nat.reduceMul, Nat.reduceSub, Nat.reduceLeDiff, Nat.lt_irrefl, Nat.reduceLT, Nat.reduceEqDiff, Nat.reduceBEq, Int.reduceLE, Int.reduceLT, Int.reduceToNat, w64, eq_self, iF, iQ, gF, gQ, t4, t5, t6, hset])
      | (with_reducible refine AW_seq (fun K hK => ?_))
      | (with_reducible refine AW_region tyOk ?_)
      | (with_reducible refine AOps_cons (fun K hK => ?_))
      | ((with_reducible refine AOps_nil ?_); try simp only [thenA, blockA, if_true, if_false, reduceIte, Nat.reduceEqDiff, reduceCtorEq])
      | (with_reducible refine AW_block ?_)
      | ((first | (with_reducible refine AW_ret ?_) | (with_reducible refine AW_skip ?_) | (with_reducible refine AW_exit ?_)); try simp only [thenA, blockA, if_true, if_false, reduceIte, Nat.reduceEqDiff, reduceCtorEq])
      | ((with_reducible show AW _ _ (.cond _ _ _) _ _ _); refine AW_cond rfl (fun hg => ?_) (fun hg => ?_) <;> first | (exfalso; simp only [reduceCtorEq] at hg; done) | ((try simp only [Bool.not_eq_true', Bool.not_eq_false', decide_eq_true_eq, decide_eq_false_iff_not] at hg); try (exfalso; omega)))
      | ((with_reducible show _ ∧ _); refine And.intro (fun hg => ?_) (fun hg => ?_) <;> (try simp only [Bool.not_eq_true', Bool.not_eq_false'] at hg) <;> simp only [hg] <;> (try simp only [decide_eq_true_eq, decide_eq_false_iff_not] at hg) <;> (try (exfalso; omega)))
      | ((with_reducible apply FunH_intro); (first | exact IsFinite_c _ _ | exact areParts_c _ _ _ _ (by first | assumption | exact RdL.app (by assumption) _ | exact RdL_hj rfl (by simp) | exact RdL_h0 rfl (by simp) | exact RdL_nil | exact RdL_emp) (by first | assumption | omega | (simp; omega) | (simp; done)) | exact cutError_c _ _ _ (by first | assumption | exact RdL.app (by assumption) _ | exact RdL_hj rfl (by simp) | exact RdL_h0 rfl (by simp) | exact RdL_nil | exact RdL_emp) (by first | assumption | omega | (simp; omega) | (simp; done))))
      | (clear hK K)
      | fail)
    refine hK _ _ (w - 1) (by omega) (by omega) ?_ (by rw [show P - (w - 1) = t + 1 by omega])
    simp only [junkAll, setAll, List.foldl_cons, List.foldl_nil, List.set_cons_succ, List.set_cons_zero, JL, true_or, or_true, and_true, true_and, reduceCtorEq, false_or, or_false, LV.int.injEq, LV.bool.injEq, LV.flt.injEq, LV.sl.injEq, LV.ptr.injEq, eq_self, Int.natCast_add, Int.natCast_one, Int.natCast_zero, Int.ofNat_zero]
    rw [show P - (w - 1) = t + 1 by omega]
    exact ⟨rfl, by omega⟩
  · have ht1 : t = P - 1 := by omega
    repeat' (first
      | ((with_reducible refine hK _ _ ?_); clear hK K)
      | ((with_reducible refine hK _ ?_); clear hK K; try simp only [])
      | ((first | (with_reducible show AOp _ _ _ _ _ _ _) | (with_reducible show AQOp _ _ _ _ _ _ _)); simp (disch := first | ((with_reducible show liveO _ _ _ = true); first | assumption | (exact (liveO_l0 hbl).trans rfl) | (exact (liveO_l0 hq3).trans rfl) | (exact (liveO_l hq3).trans rfl) | (exact liveO_setS (by assumption)) | (exact PtL.live (by assumption)) | (exact PtL.liveA (by assumption) _) | (simp only [go_sem]; done)) | omega | assumption | rfl | (simp only [go_sem]; first | done | omega)) only [go_sem, reduceIte, reduceCtorEq, Nat.reduceAdd, Nat.reduceMul, Nat.reduceSub, Nat.reduceLeDiff, Nat.lt_irrefl, Nat.reduceLT, Nat.reduceEqDiff, Nat.reduceBEq, Int.reduceLE, Int.reduceLT, Int.reduceToNat, w64, eq_self, iL, iP, gLg, gPg, t2, t3, hB4l])
      | (with_reducible refine AW_seq (fun K hK => ?_))
      | (with_reducible refine AW_region tyOk ?_)
      | ((with_reducible refine AW_quiet (id := 42) tyOk ?_ ?_ ?_); (kernel_rfl); (kernel_rfl))
      | (with_reducible refine AOps_cons (fun K hK => ?_))
      | (with_reducible refine AQOps_cons (fun K hK => ?_))
      | ((with_reducible refine AQOps_nil ?_); try simp only [thenA, blockA, if_true, if_false, reduceIte, Nat.reduceEqDiff, reduceCtorEq])
      | ((with_reducible refine AOps_nil ?_); try simp only [thenA, blockA, if_true, if_false, reduceIte, Nat.reduceEqDiff, reduceCtorEq])
      | (with_reducible refine AW_block ?_)
      | ((first | (with_reducible refine AW_ret ?_) | (with_reducible refine AW_skip ?_) | (with_reducible refine AW_exit ?_)); try simp only [thenA, blockA, if_true, if_false, reduceIte, Nat.reduceEqDiff, reduceCtorEq])
      | ((with_reducible show AW _ _ (.cond _ _ _) _ _ _); refine AW_cond rfl (fun hg => ?_) (fun hg => ?_) <;> first | (exfalso; simp only [reduceCtorEq] at hg; done) | ((try simp only [Bool.not_eq_true', Bool.not_eq_false', decide_eq_true_eq, decide_eq_false_iff_not] at hg); try (exfalso; omega)))
      | ((with_reducible show _ ∧ _); refine And.intro (fun hg => ?_) (fun hg => ?_) <;> (try simp only [Bool.not_eq_true', Bool.not_eq_false'] at hg) <;> simp only [hg] <;> (try simp only [decide_eq_true_eq, decide_eq_false_iff_not] at hg) <;> (try (exfalso; omega)))
      | ((first | (with_reducible apply FunH_intro) | (with_reducible apply AQ_intro)); (first | exact IsFinite_c _ _ | exact areParts_c _ _ _ _ (by first | assumption | exact RdL.app (by assumption) _ | exact RdL_hj rfl (by simp) | exact RdL_h0 rfl (by simp) | exact RdL_nil | exact RdL_emp) (by first | assumption | omega | (simp; omega) | (simp; done)) | exact cutError_c _ _ _ (by first | assumption | exact RdL.app (by assumption) _ | exact RdL_hj rfl (by simp) | exact RdL_h0 rfl (by simp) | exact RdL_nil | exact RdL_emp) (by first | assumption | omega | (simp; omega) | (simp; done))))
      | (clear hK K)
      | fail)
    have hg : (K5 ++ [(⟨0, false, 2, 1, (bcOut xs P t).map (LV.int .i64)⟩ : AO)])[K5.length]? = some ⟨0, false, 2, 1, (bcOut xs P t).map (LV.int .i64)⟩ := by simp
    rw [hK5, List.append_assoc]
    refine EndA_rows [some K5.length] hcl (by first | exact Or.inr rfl | exact Or.inl rfl) (by simp only [Try.results46, resA, aresL, go_sem, hB4l] <;> rfl) (by simp) ?_ ?_ ⟨rfl, rfl⟩
    · refine ⟨RowOk.eq hg ?_ (scal_int _ _), trivial⟩
      rw [e5, ht1]; rfl
    · refine TdT.tup ⟨TdL.cell ?_, TdL.cell ?_, TdL.cell ?_, trivial⟩
      · rw [e5, if_pos rfl, bcOut_len]
        exact TdB.own 0 K5.length _ _ _ _ rfl _ hg rfl
      · rw [e5]; exact TdB.old _ trivial rfl
      · rw [e5]; exact TdB.old _ trivial rfl
end Go.Proofs.Ytkkcfbpgcekmjaa
