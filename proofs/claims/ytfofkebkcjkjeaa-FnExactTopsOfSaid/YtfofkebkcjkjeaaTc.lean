/- Tops of keys, in the abstract machine: a key put. -/
import Derived.Test.YtfofkebkcjkjeaaTb
namespace Go.Proofs.Ytfofkebkcjkjeaa
open Go.RowKit
set_option linter.unusedSimpArgs false
set_option linter.unusedVariables false
set_option maxRecDepth 100000

/-- What tops hold when a key is put: the keys, the counts, the errors; whether they grew. -/
def tpS (room : Int) (Ks C E : List Int) (key : Int) : List Int × List Int × List Int × Nat :=
  if 0 ≤ at1 Ks key then (Ks, C.set (at1 Ks key).toNat (ix C (at1 Ks key).toNat + 1), E, 0)
  else if (Ks.length : Int) < room then (Ks ++ [key], C ++ [1], E ++ [0], 1)
  else (Ks.set (lowN C) key, C.set (lowN C) (ix C (lowN C) + 1), E.set (lowN C) (ix C (lowN C)), 0)
theorem at1_in {xs : List Int} {x : Int} (h : 0 ≤ at1 xs x) : ∃ k : Nat, at1 xs x = k ∧ k < xs.length := by
  rcases idxF_lt (p := fun y => y == x) (xs := xs) with h1 | h1
  · refine ⟨(at1 xs x).toNat, by omega, ?_⟩
    have : at1 xs x = idxF (fun y => y == x) xs := rfl
    omega
  · subst h1
    exact absurd h (by unfold at1 idxF; simp)
theorem at1_out {xs : List Int} {x : Int} (h : ¬ 0 ≤ at1 xs x) : at1 xs x = -1 := by
  rcases idxF_lt (p := fun y => y == x) (xs := xs) with h1 | h1
  · have : at1 xs x = idxF (fun y => y == x) xs := rfl
    omega
  · subst h1; rfl
theorem set_mapI (xs : List Int) (k : Nat) (x : Int) : (xs.map (LV.int .i64)).set k (.int .i64 x) = (xs.set k x).map (LV.int .i64) := (List.map_set ..).symm
theorem app_mapI (xs : List Int) (x : Int) : xs.map (LV.int .i64) ++ [.int .i64 x] = (xs ++ [x]).map (LV.int .i64) := by rw [List.map_append]; rfl
theorem T4.closedT {H : Hp} {a b c p el tl : Nat} {A B C P : AO} (D : Ds4 H.length a b c p) (hcl : Closed (T4 H a b c p A B C P)) (room : Int) (Ks' C' E' : List Int) (va' vb' vc' vp n1 n2 n3 : Nat) :
    Closed (T4 H a b c p ⟨va', false, el, 1, Ks'.map (LV.int .i64)⟩ ⟨vb', false, el, 1, C'.map (LV.int .i64)⟩ ⟨vc', false, el, 1, E'.map (LV.int .i64)⟩ ⟨vp, false, tl, 4, [.int .i64 room, .sl a va' 0 n1 none, .sl b vb' 0 n2 none, .sl c vc' 0 n3 none]⟩) :=
  T4.closed D hcl (int_bndI _ _ _) (int_bndI _ _ _) (int_bndI _ _ _) (by
      intro x hx
      simp only [List.mem_cons, List.not_mem_nil, or_false] at hx
      rcases hx with rfl | rfl | rfl | rfl
      · exact trivial
      · exact D.la
      · exact D.lb
      · exact D.lc)
set_option maxHeartbeats 4000000 in
theorem tput_c (p a b c vp va vb vc : Nat) (room key : Int) (Ks C E : List Int) (H : Hp) (D : Ds4 H.length a b c p) (lC : C.length = Ks.length) (lE : E.length = Ks.length) (h0 : (Ks.length : Int) < room ∨ 0 < Ks.length) (hn : Ks.length ≤ 1000)
    (bC : ∀ x ∈ C, 0 ≤ x ∧ x ≤ 1000000000001) :
    FunH Try.prog 68 [.ptr p vp 0, .int .i64 key] (T4 H a b c p ⟨va, false, 2, 1, Ks.map (LV.int .i64)⟩ ⟨vb, false, 2, 1, C.map (LV.int .i64)⟩ ⟨vc, false, 2, 1, E.map (LV.int .i64)⟩
        ⟨vp, false, 24, 4, [.int .i64 room, .sl a va 0 Ks.length none, .sl b vb 0 C.length none, .sl c vc 0 E.length none]⟩) fun r H' => r = .tup [] ∧
      H' = T4 H a b c p ⟨va + (tpS room Ks C E key).2.2.2, false, 2, 1, (tpS room Ks C E key).1.map (LV.int .i64)⟩ ⟨vb + (tpS room Ks C E key).2.2.2, false, 2, 1, (tpS room Ks C E key).2.1.map (LV.int .i64)⟩ ⟨vc + (tpS room Ks C E key).2.2.2, false, 2, 1, (tpS room Ks C E key).2.2.1.map (LV.int .i64)⟩
        ⟨vp, false, 24, 4, [.int .i64 room, .sl a (va + (tpS room Ks C E key).2.2.2) 0 (tpS room Ks C E key).1.length none, .sl b (vb + (tpS room Ks C E key).2.2.2) 0 (tpS room Ks C E key).2.1.length none, .sl c (vc + (tpS room Ks C E key).2.2.2) 0 (tpS room Ks C E key).2.2.1.length none]⟩ := by
  obtain ⟨m, hm⟩ : ∃ m, Ks.length = m := ⟨_, rfl⟩
  have rA0 := fun (B C' P : AO) => RdL_id (H := T4 H a b c p ⟨va, false, 2, 1, Ks.map (LV.int .i64)⟩ B C' P) (n := m) (T4.ga D) (by simpa using hm)
  have rB0 := fun (A C' P : AO) => RdL_id (H := T4 H a b c p A ⟨vb, false, 2, 1, C.map (LV.int .i64)⟩ C' P) (n := m) (T4.gb D) (by rw [List.length_map]; omega)
  have t1 := all_int .i64 Ks
  have t2 := all_int .i64 C
  have t3 := all_int .i64 E
  have gE : ∀ k : Nat, k < E.length → (E.map (LV.int .i64))[k]? = some (.int .i64 (ix E k)) := fun k hk => map_ix hk
  have gC : ∀ k : Nat, k < C.length → (C.map (LV.int .i64))[k]? = some (.int .i64 (ix C k)) := fun k hk => map_ix hk
  by_cases ha : 0 ≤ at1 Ks key
  · obtain ⟨k, hk, hkl⟩ := at1_in ha
    have hS : tpS room Ks C E key = (Ks, C.set k (ix C k + 1), E, 0) := by unfold tpS; rw [if_pos ha, hk]; rfl
    have w1 := bC _ (ix_mem C k (by omega))
    have gk := gC k (by omega)
    simp only [hS]
    (refine FunH_body tyOk Try.func68 rfl (by kernel_rfl) Try.ntmps68 (fun hcl hbd => ?_); simp only [List.length_cons, List.length_nil, Nat.reduceAdd, Nat.reduceSub, List.replicate, List.cons_append, List.nil_append])
    repeat' (first
      | ((with_reducible refine hK _ _ ?_); clear hK K)
      | ((with_reducible refine hK _ ?_); clear hK K; try simp only [])
      | ((first | (with_reducible show AOp _ _ _ _ _ _ _) | (with_reducible show AQOp _ _ _ _ _ _ _)); simp (disch := first | ((with_reducible show liveO _ _ _ = true); first | assumption | (exact liveO_i (T4.gp D)) | (exact liveO_i (T4.gb D)) | (exact liveO_i (T4.gc D)) | (exact liveO_i (T4.ga D)) | (exact liveO_i (T4.gpA D)) | (exact liveO_i (T4.gbA D)) | (exact liveO_i (T4.gcA D)) | (exact liveO_i (T4.gaA D)) | (exact liveO_setS (by assumption)) | (exact PtL.live (by assumption)) | (exact PtL.liveA (by assumption) _) | (simp only [go_sem]; done)) | omega | assumption | rfl | (simp only [go_sem]; first | done | omega)) only [go_sem, reduceIte, reduceCtorEq, Nat.reduceAdd, Nat.reduceMul, Nat.reduceSub, Nat.reduceLeDiff, Nat.lt_irrefl, Nat.reduceLT, Nat.reduceEqDiff, Nat.reduceBEq, Int.reduceLE, Int.reduceLT, Int.reduceToNat, w64, eq_self, hk, hget_i (T4.gp D), hget_i (T4.gb D), hput_i (T4.gb D), T4.sb D, gk, lC, lE, hm, set_mapI])
      | (with_reducible refine AW_seq (fun K hK => ?_))
      | (with_reducible refine AW_region tyOk ?_)
      | ((with_reducible refine AW_quiet (id := 8) tyOk ?_ ?_ ?_); (kernel_rfl); (kernel_rfl))
      | (with_reducible refine AOps_cons (fun K hK => ?_))
      | (with_reducible refine AQOps_cons (fun K hK => ?_))
      | ((with_reducible refine AQOps_nil ?_); try simp only [thenA, blockA, if_true, if_false, reduceIte, Nat.reduceEqDiff, reduceCtorEq])
      | ((with_reducible refine AOps_nil ?_); try simp only [thenA, blockA, if_true, if_false, reduceIte, Nat.reduceEqDiff, reduceCtorEq])
      | (with_reducible refine AW_block ?_)
      | ((first | (with_reducible refine AW_ret ?_) | (with_reducible refine AW_skip ?_) | (with_reducible refine AW_exit ?_)); try simp only [thenA, blockA, if_true, if_false, reduceIte, Nat.reduceEqDiff, reduceCtorEq])
      | ((with_reducible show AW _ _ (.cond _ _ _) _ _ _); refine AW_cond rfl (fun hg => ?_) (fun hg => ?_) <;> first | (exfalso; simp only [reduceCtorEq] at hg; done) | ((try simp only [Bool.not_eq_true', Bool.not_eq_false', decide_eq_true_eq, decide_eq_false_iff_not] at hg); try (exfalso; omega)))
      | ((with_reducible show _ ∧ _); refine And.intro (fun hg => ?_) (fun hg => ?_) <;> (try simp only [Bool.not_eq_true', Bool.not_eq_false'] at hg) <;> simp only [hg] <;> (try simp only [decide_eq_true_eq, decide_eq_false_iff_not] at hg) <;> (try (exfalso; omega)))
      | ((first | (with_reducible apply FunH_intro) | (with_reducible apply AQ_intro)); (first | exact Index_int64_c _ Ks key _ (rA0 _ _ _) (by omega) | exact Index_int64_c _ _ _ _ (by first | assumption | exact RdL.app (by assumption) _ | exact RdL_hj rfl (by simp) | exact RdL_h0 rfl (by simp) | exact RdL_nil | exact RdL_emp) (by first | assumption | omega | (simp; omega) | (simp; done)) | exact slicesMin_c _ _ _ (by first | assumption | exact RdL.app (by assumption) _ | exact RdL_hj rfl (by simp) | exact RdL_h0 rfl (by simp) | exact RdL_nil | exact RdL_emp) (by first | assumption | omega | (simp; omega) | (simp; done)) (by first | assumption | omega | (simp; omega) | (simp; done))))
      | (clear hK K)
      | fail)
    refine EndA_same (by first | exact Or.inr rfl | exact Or.inl rfl) (by simp only [Try.results68, resA, aresL, go_sem] <;> rfl) ?_
    refine ⟨rfl, ?_⟩
    simp only [List.length_set, Nat.add_zero, lC, lE, hm]
  · have hk := at1_out ha
    by_cases hr : (Ks.length : Int) < room
    · have hS : tpS room Ks C E key = (Ks ++ [key], C ++ [1], E ++ [0], 1) := by unfold tpS; rw [if_neg ha, if_pos hr]
      simp only [hS]
      (refine FunH_body tyOk Try.func68 rfl (by kernel_rfl) Try.ntmps68 (fun hcl hbd => ?_); simp only [List.length_cons, List.length_nil, Nat.reduceAdd, Nat.reduceSub, List.replicate, List.cons_append, List.nil_append])
      repeat' (first
        | ((with_reducible refine hK _ _ ?_); clear hK K)
        | ((with_reducible refine hK _ ?_); clear hK K; try simp only [])
        | ((first | (with_reducible show AOp _ _ _ _ _ _ _) | (with_reducible show AQOp _ _ _ _ _ _ _)); simp (disch := first | ((with_reducible show liveO _ _ _ = true); first | assumption | (exact liveO_i (T4.gp D)) | (exact liveO_i (T4.gb D)) | (exact liveO_i (T4.gc D)) | (exact liveO_i (T4.ga D)) | (exact liveO_i (T4.gpA D)) | (exact liveO_i (T4.gbA D)) | (exact liveO_i (T4.gcA D)) | (exact liveO_i (T4.gaA D)) | (exact liveO_setS (by assumption)) | (exact PtL.live (by assumption)) | (exact PtL.liveA (by assumption) _) | (simp only [go_sem]; done)) | omega | assumption | rfl | (simp only [go_sem]; first | done | omega)) only [go_sem, reduceIte, reduceCtorEq, Nat.reduceAdd, Nat.reduceMul, Nat.reduceSub, Nat.reduceLeDiff, Nat.lt_irrefl, Nat.reduceLT, Nat.reduceEqDiff, Nat.reduceBEq, Int.reduceLE, Int.reduceLT, Int.reduceToNat, w64, eq_self, hk, hget_i (T4.gp D), hget_i (T4.gpA D), hput_i (T4.gpA D), T4.spA D, T4.saA D, T4.sbA D, T4.scA D, T4.gaA D, T4.gbA D, T4.gcA D, hgets_i (T4.gaA D), lC, lE, hm, t1, t2, t3, List.length_map, app_mapI])
        | (with_reducible refine AW_seq (fun K hK => ?_))
        | (with_reducible refine AW_region tyOk ?_)
        | ((with_reducible refine AW_quiet (id := 8) tyOk ?_ ?_ ?_); (kernel_rfl); (kernel_rfl))
        | (with_reducible refine AOps_cons (fun K hK => ?_))
        | (with_reducible refine AQOps_cons (fun K hK => ?_))
        | ((with_reducible refine AQOps_nil ?_); try simp only [thenA, blockA, if_true, if_false, reduceIte, Nat.reduceEqDiff, reduceCtorEq])
        | ((with_reducible refine AOps_nil ?_); try simp only [thenA, blockA, if_true, if_false, reduceIte, Nat.reduceEqDiff, reduceCtorEq])
        | (with_reducible refine AW_block ?_)
        | ((first | (with_reducible refine AW_ret ?_) | (with_reducible refine AW_skip ?_) | (with_reducible refine AW_exit ?_)); try simp only [thenA, blockA, if_true, if_false, reduceIte, Nat.reduceEqDiff, reduceCtorEq])
        | ((with_reducible show AW _ _ (.cond _ _ _) _ _ _); refine AW_cond rfl (fun hg => ?_) (fun hg => ?_) <;> first | (exfalso; simp only [reduceCtorEq] at hg; done) | ((try simp only [Bool.not_eq_true', Bool.not_eq_false', decide_eq_true_eq, decide_eq_false_iff_not] at hg); try (exfalso; omega)))
        | ((with_reducible show _ ∧ _); refine And.intro (fun hg => ?_) (fun hg => ?_) <;> (try simp only [Bool.not_eq_true', Bool.not_eq_false'] at hg) <;> simp only [hg] <;> (try simp only [decide_eq_true_eq, decide_eq_false_iff_not] at hg) <;> (try (exfalso; omega)))
        | ((first | (with_reducible apply FunH_intro) | (with_reducible apply AQ_intro)); (first | exact Index_int64_c _ Ks key _ (rA0 _ _ _) (by omega) | exact Index_int64_c _ _ _ _ (by first | assumption | exact RdL.app (by assumption) _ | exact RdL_hj rfl (by simp) | exact RdL_h0 rfl (by simp) | exact RdL_nil | exact RdL_emp) (by first | assumption | omega | (simp; omega) | (simp; done)) | exact slicesMin_c _ _ _ (by first | assumption | exact RdL.app (by assumption) _ | exact RdL_hj rfl (by simp) | exact RdL_h0 rfl (by simp) | exact RdL_nil | exact RdL_emp) (by first | assumption | omega | (simp; omega) | (simp; done)) (by first | assumption | omega | (simp; omega) | (simp; done))))
        | (clear hK K)
        | fail)
      refine EndA_cutS (T4.closedT D hcl _ _ _ _ _ _ _ _ _ _ _) (by simp only [T4.len]; exact Nat.le_refl _) (by first | exact Or.inr rfl | exact Or.inl rfl) (by simp only [Try.results68, resA, aresL, go_sem] <;> rfl) rfl ?_
      refine ⟨rfl, ?_⟩
      simp only [List.length_append, List.length_cons, List.length_nil, lC, lE, hm]
    · have hS : tpS room Ks C E key = (Ks.set (lowN C) key, C.set (lowN C) (ix C (lowN C) + 1), E.set (lowN C) (ix C (lowN C)), 0) := by unfold tpS; rw [if_neg ha, if_neg hr]
      obtain ⟨k, k1, k2, k3, k4⟩ := at1_low (C := C) (by omega)
      have w1 := bC _ (ix_mem C k k2)
      have gk := gC k k2
      have k3' : foldM min C = ix C k := k3.symm
      have k1' : at1 C (ix C k) = k := by rw [k3]; exact k1
      simp only [hS, k4]
      (refine FunH_body tyOk Try.func68 rfl (by kernel_rfl) Try.ntmps68 (fun hcl hbd => ?_); simp only [List.length_cons, List.length_nil, Nat.reduceAdd, Nat.reduceSub, List.replicate, List.cons_append, List.nil_append])
      repeat' (first
        | ((with_reducible refine hK _ _ ?_); clear hK K)
        | ((with_reducible refine hK _ ?_); clear hK K; try simp only [])
        | ((first | (with_reducible show AOp _ _ _ _ _ _ _) | (with_reducible show AQOp _ _ _ _ _ _ _)); simp (disch := first | ((with_reducible show liveO _ _ _ = true); first | assumption | (exact liveO_i (T4.gp D)) | (exact liveO_i (T4.gb D)) | (exact liveO_i (T4.gc D)) | (exact liveO_i (T4.ga D)) | (exact liveO_i (T4.gpA D)) | (exact liveO_i (T4.gbA D)) | (exact liveO_i (T4.gcA D)) | (exact liveO_i (T4.gaA D)) | (exact liveO_setS (by assumption)) | (exact PtL.live (by assumption)) | (exact PtL.liveA (by assumption) _) | (simp only [go_sem]; done)) | omega | assumption | rfl | (simp only [go_sem]; first | done | omega)) only [go_sem, reduceIte, reduceCtorEq, Nat.reduceAdd, Nat.reduceMul, Nat.reduceSub, Nat.reduceLeDiff, Nat.lt_irrefl, Nat.reduceLT, Nat.reduceEqDiff, Nat.reduceBEq, Int.reduceLE, Int.reduceLT, Int.reduceToNat, w64, eq_self, hk, k1', k3', k4, hget_i (T4.gp D), hget_i (T4.ga D), hget_i (T4.gb D), hget_i (T4.gc D), hput_i (T4.ga D), hput_i (T4.gb D), hput_i (T4.gc D), T4.sa D, T4.sb D, T4.sc D, gk, lC, lE, hm, set_mapI])
        | (with_reducible refine AW_seq (fun K hK => ?_))
        | (with_reducible refine AW_region tyOk ?_)
        | ((with_reducible refine AW_quiet (id := 8) tyOk ?_ ?_ ?_); (kernel_rfl); (kernel_rfl))
        | (with_reducible refine AOps_cons (fun K hK => ?_))
        | (with_reducible refine AQOps_cons (fun K hK => ?_))
        | ((with_reducible refine AQOps_nil ?_); try simp only [thenA, blockA, if_true, if_false, reduceIte, Nat.reduceEqDiff, reduceCtorEq])
        | ((with_reducible refine AOps_nil ?_); try simp only [thenA, blockA, if_true, if_false, reduceIte, Nat.reduceEqDiff, reduceCtorEq])
        | (with_reducible refine AW_block ?_)
        | ((first | (with_reducible refine AW_ret ?_) | (with_reducible refine AW_skip ?_) | (with_reducible refine AW_exit ?_)); try simp only [thenA, blockA, if_true, if_false, reduceIte, Nat.reduceEqDiff, reduceCtorEq])
        | ((with_reducible show AW _ _ (.cond _ _ _) _ _ _); refine AW_cond rfl (fun hg => ?_) (fun hg => ?_) <;> first | (exfalso; simp only [reduceCtorEq] at hg; done) | ((try simp only [Bool.not_eq_true', Bool.not_eq_false', decide_eq_true_eq, decide_eq_false_iff_not] at hg); try (exfalso; omega)))
        | ((with_reducible show _ ∧ _); refine And.intro (fun hg => ?_) (fun hg => ?_) <;> (try simp only [Bool.not_eq_true', Bool.not_eq_false'] at hg) <;> simp only [hg] <;> (try simp only [decide_eq_true_eq, decide_eq_false_iff_not] at hg) <;> (try (exfalso; omega)))
        | ((first | (with_reducible apply FunH_intro) | (with_reducible apply AQ_intro)); (first | exact Index_int64_c _ Ks key _ (rA0 _ _ _) (by omega) | exact Index_int64_c _ C (ix C k) _ (rB0 _ _ _) (by omega) | exact slicesMin_c _ C _ (rB0 _ _ _) (by omega) (by omega) | exact Index_int64_c _ _ _ _ (by first | assumption | exact RdL.app (by assumption) _ | exact RdL_hj rfl (by simp) | exact RdL_h0 rfl (by simp) | exact RdL_nil | exact RdL_emp) (by first | assumption | omega | (simp; omega) | (simp; done)) | exact slicesMin_c _ _ _ (by first | assumption | exact RdL.app (by assumption) _ | exact RdL_hj rfl (by simp) | exact RdL_h0 rfl (by simp) | exact RdL_nil | exact RdL_emp) (by first | assumption | omega | (simp; omega) | (simp; done)) (by first | assumption | omega | (simp; omega) | (simp; done))))
        | (clear hK K)
        | fail)
      refine EndA_same (by first | exact Or.inr rfl | exact Or.inl rfl) (by simp only [Try.results68, resA, aresL, go_sem] <;> rfl) ?_
      refine ⟨rfl, ?_⟩
      simp only [List.length_set, Nat.add_zero, lC, lE, hm]
set_option maxHeartbeats 4000000 in
theorem l03Top_c (p a b c vp va vb vc : Nat) (room key : Int) (Ks C E : List Int) (H : Hp) (D : Ds4 H.length a b c p) (lC : C.length = Ks.length) (lE : E.length = Ks.length) (h0 : (Ks.length : Int) < room ∨ 0 < Ks.length) (hn : Ks.length ≤ 1000)
    (bC : ∀ x ∈ C, 0 ≤ x ∧ x ≤ 1000000000001) :
    FunH Try.prog 65 [.ptr p vp 0, .int .i64 key] (T4 H a b c p ⟨va, false, 2, 1, Ks.map (LV.int .i64)⟩ ⟨vb, false, 2, 1, C.map (LV.int .i64)⟩ ⟨vc, false, 2, 1, E.map (LV.int .i64)⟩
        ⟨vp, false, 24, 4, [.int .i64 room, .sl a va 0 Ks.length none, .sl b vb 0 C.length none, .sl c vc 0 E.length none]⟩) fun r H' => r = .tup [] ∧
      H' = T4 H a b c p ⟨va + (tpS room Ks C E key).2.2.2, false, 2, 1, (tpS room Ks C E key).1.map (LV.int .i64)⟩ ⟨vb + (tpS room Ks C E key).2.2.2, false, 2, 1, (tpS room Ks C E key).2.1.map (LV.int .i64)⟩ ⟨vc + (tpS room Ks C E key).2.2.2, false, 2, 1, (tpS room Ks C E key).2.2.1.map (LV.int .i64)⟩
        ⟨vp, false, 24, 4, [.int .i64 room, .sl a (va + (tpS room Ks C E key).2.2.2) 0 (tpS room Ks C E key).1.length none, .sl b (vb + (tpS room Ks C E key).2.2.2) 0 (tpS room Ks C E key).2.1.length none, .sl c (vc + (tpS room Ks C E key).2.2.2) 0 (tpS room Ks C E key).2.2.1.length none]⟩ := by
  obtain ⟨m, hm⟩ : ∃ m, Ks.length = m := ⟨_, rfl⟩
  have rA0 := fun (B C' P : AO) => RdL_id (H := T4 H a b c p ⟨va, false, 2, 1, Ks.map (LV.int .i64)⟩ B C' P) (n := m) (T4.ga D) (by simpa using hm)
  have rB0 := fun (A C' P : AO) => RdL_id (H := T4 H a b c p A ⟨vb, false, 2, 1, C.map (LV.int .i64)⟩ C' P) (n := m) (T4.gb D) (by rw [List.length_map]; omega)
  have t1 := all_int .i64 Ks
  have t2 := all_int .i64 C
  have t3 := all_int .i64 E
  have gE : ∀ k : Nat, k < E.length → (E.map (LV.int .i64))[k]? = some (.int .i64 (ix E k)) := fun k hk => map_ix hk
  have gC : ∀ k : Nat, k < C.length → (C.map (LV.int .i64))[k]? = some (.int .i64 (ix C k)) := fun k hk => map_ix hk
  by_cases ha : 0 ≤ at1 Ks key
  · obtain ⟨k, hk, hkl⟩ := at1_in ha
    have hS : tpS room Ks C E key = (Ks, C.set k (ix C k + 1), E, 0) := by unfold tpS; rw [if_pos ha, hk]; rfl
    have w1 := bC _ (ix_mem C k (by omega))
    have gk := gC k (by omega)
    simp only [hS]
    (refine FunH_body tyOk Try.func65 rfl (by kernel_rfl) Try.ntmps65 (fun hcl hbd => ?_); simp only [List.length_cons, List.length_nil, Nat.reduceAdd, Nat.reduceSub, List.replicate, List.cons_append, List.nil_append])
    repeat' (first
      | ((with_reducible refine hK _ _ ?_); clear hK K)
      | ((with_reducible refine hK _ ?_); clear hK K; try simp only [])
      | ((first | (with_reducible show AOp _ _ _ _ _ _ _) | (with_reducible show AQOp _ _ _ _ _ _ _)); simp (disch := first | ((with_reducible show liveO _ _ _ = true); first | assumption | (exact liveO_i (T4.gp D)) | (exact liveO_i (T4.gb D)) | (exact liveO_i (T4.gc D)) | (exact liveO_i (T4.ga D)) | (exact liveO_i (T4.gpA D)) | (exact liveO_i (T4.gbA D)) | (exact liveO_i (T4.gcA D)) | (exact liveO_i (T4.gaA D)) | (exact liveO_setS (by assumption)) | (exact PtL.live (by assumption)) | (exact PtL.liveA (by assumption) _) | (simp only [go_sem]; done)) | omega | assumption | rfl | (simp only [go_sem]; first | done | omega)) only [go_sem, reduceIte, reduceCtorEq, Nat.reduceAdd, Nat.reduceMul, Nat.reduceSub, Nat.reduceLeDiff, Nat.lt_irrefl, Nat.reduceLT, Nat.reduceEqDiff, Nat.reduceBEq, Int.reduceLE, Int.reduceLT, Int.reduceToNat, w64, eq_self, hk, hget_i (T4.gp D), hget_i (T4.gb D), hput_i (T4.gb D), T4.sb D, gk, lC, lE, hm, set_mapI])
      | (with_reducible refine AW_seq (fun K hK => ?_))
      | (with_reducible refine AW_region tyOk ?_)
      | ((with_reducible refine AW_quiet (id := 3) tyOk ?_ ?_ ?_); (kernel_rfl); (kernel_rfl))
      | ((with_reducible refine AW_drawn (id := 9) tyOk 13 ?_ ?_ ?_); (kernel_rfl); (kernel_rfl); simp only [List.take_succ_cons, List.take_zero, List.drop_succ_cons, List.drop_zero])
      | (with_reducible refine AOps_cons (fun K hK => ?_))
      | (with_reducible refine AQOps_cons (fun K hK => ?_))
      | ((with_reducible refine AQOps_nil ?_); try simp only [thenA, blockA, if_true, if_false, reduceIte, Nat.reduceEqDiff, reduceCtorEq])
      | ((with_reducible refine AOps_nil ?_); try simp only [thenA, blockA, if_true, if_false, reduceIte, Nat.reduceEqDiff, reduceCtorEq])
      | (with_reducible refine AW_block ?_)
      | ((first | (with_reducible refine AW_ret ?_) | (with_reducible refine AW_skip ?_) | (with_reducible refine AW_exit ?_)); try simp only [thenA, blockA, if_true, if_false, reduceIte, Nat.reduceEqDiff, reduceCtorEq])
      | ((with_reducible show AW _ _ (.cond _ _ _) _ _ _); refine AW_cond rfl (fun hg => ?_) (fun hg => ?_) <;> first | (exfalso; simp only [reduceCtorEq] at hg; done) | ((try simp only [Bool.not_eq_true', Bool.not_eq_false', decide_eq_true_eq, decide_eq_false_iff_not] at hg); try (exfalso; omega)))
      | ((with_reducible show _ ∧ _); refine And.intro (fun hg => ?_) (fun hg => ?_) <;> (try simp only [Bool.not_eq_true', Bool.not_eq_false'] at hg) <;> simp only [hg] <;> (try simp only [decide_eq_true_eq, decide_eq_false_iff_not] at hg) <;> (try (exfalso; omega)))
      | ((first | (with_reducible apply FunH_intro) | (with_reducible apply AQ_intro)); (first | exact l03Find_c _ Ks key _ (rA0 _ _ _) (by omega) | exact l03Find_c _ _ _ _ (by first | assumption | exact RdL.app (by assumption) _ | exact RdL_hj rfl (by simp) | exact RdL_h0 rfl (by simp) | exact RdL_nil | exact RdL_emp) (by first | assumption | omega | (simp; omega) | (simp; done)) | exact l03Lowest_c _ _ _ (by first | assumption | exact RdL.app (by assumption) _ | exact RdL_hj rfl (by simp) | exact RdL_h0 rfl (by simp) | exact RdL_nil | exact RdL_emp) (by first | assumption | omega | (simp; omega) | (simp; done)) (by first | assumption | omega | (simp; omega) | (simp; done))))
      | (clear hK K)
      | fail)
    refine EndA_same (by first | exact Or.inr rfl | exact Or.inl rfl) (by simp only [Try.results65, resA, aresL, go_sem] <;> rfl) ?_
    refine ⟨rfl, ?_⟩
    simp only [List.length_set, Nat.add_zero, lC, lE, hm]
  · have hk := at1_out ha
    by_cases hr : (Ks.length : Int) < room
    · have hS : tpS room Ks C E key = (Ks ++ [key], C ++ [1], E ++ [0], 1) := by unfold tpS; rw [if_neg ha, if_pos hr]
      simp only [hS]
      (refine FunH_body tyOk Try.func65 rfl (by kernel_rfl) Try.ntmps65 (fun hcl hbd => ?_); simp only [List.length_cons, List.length_nil, Nat.reduceAdd, Nat.reduceSub, List.replicate, List.cons_append, List.nil_append])
      repeat' (first
        | ((with_reducible refine hK _ _ ?_); clear hK K)
        | ((with_reducible refine hK _ ?_); clear hK K; try simp only [])
        | ((first | (with_reducible show AOp _ _ _ _ _ _ _) | (with_reducible show AQOp _ _ _ _ _ _ _)); simp (disch := first | ((with_reducible show liveO _ _ _ = true); first | assumption | (exact liveO_i (T4.gp D)) | (exact liveO_i (T4.gb D)) | (exact liveO_i (T4.gc D)) | (exact liveO_i (T4.ga D)) | (exact liveO_i (T4.gpA D)) | (exact liveO_i (T4.gbA D)) | (exact liveO_i (T4.gcA D)) | (exact liveO_i (T4.gaA D)) | (exact liveO_setS (by assumption)) | (exact PtL.live (by assumption)) | (exact PtL.liveA (by assumption) _) | (simp only [go_sem]; done)) | omega | assumption | rfl | (simp only [go_sem]; first | done | omega)) only [go_sem, reduceIte, reduceCtorEq, Nat.reduceAdd, Nat.reduceMul, Nat.reduceSub, Nat.reduceLeDiff, Nat.lt_irrefl, Nat.reduceLT, Nat.reduceEqDiff, Nat.reduceBEq, Int.reduceLE, Int.reduceLT, Int.reduceToNat, w64, eq_self, hk, hget_i (T4.gp D), hget_i (T4.gpA D), hput_i (T4.gpA D), T4.spA D, T4.saA D, T4.sbA D, T4.scA D, T4.gaA D, T4.gbA D, T4.gcA D, hgets_i (T4.gaA D), lC, lE, hm, t1, t2, t3, List.length_map, app_mapI])
        | (with_reducible refine AW_seq (fun K hK => ?_))
        | (with_reducible refine AW_region tyOk ?_)
        | ((with_reducible refine AW_quiet (id := 3) tyOk ?_ ?_ ?_); (kernel_rfl); (kernel_rfl))
        | ((with_reducible refine AW_drawn (id := 9) tyOk 13 ?_ ?_ ?_); (kernel_rfl); (kernel_rfl); simp only [List.take_succ_cons, List.take_zero, List.drop_succ_cons, List.drop_zero])
        | (with_reducible refine AOps_cons (fun K hK => ?_))
        | (with_reducible refine AQOps_cons (fun K hK => ?_))
        | ((with_reducible refine AQOps_nil ?_); try simp only [thenA, blockA, if_true, if_false, reduceIte, Nat.reduceEqDiff, reduceCtorEq])
        | ((with_reducible refine AOps_nil ?_); try simp only [thenA, blockA, if_true, if_false, reduceIte, Nat.reduceEqDiff, reduceCtorEq])
        | (with_reducible refine AW_block ?_)
        | ((first | (with_reducible refine AW_ret ?_) | (with_reducible refine AW_skip ?_) | (with_reducible refine AW_exit ?_)); try simp only [thenA, blockA, if_true, if_false, reduceIte, Nat.reduceEqDiff, reduceCtorEq])
        | ((with_reducible show AW _ _ (.cond _ _ _) _ _ _); refine AW_cond rfl (fun hg => ?_) (fun hg => ?_) <;> first | (exfalso; simp only [reduceCtorEq] at hg; done) | ((try simp only [Bool.not_eq_true', Bool.not_eq_false', decide_eq_true_eq, decide_eq_false_iff_not] at hg); try (exfalso; omega)))
        | ((with_reducible show _ ∧ _); refine And.intro (fun hg => ?_) (fun hg => ?_) <;> (try simp only [Bool.not_eq_true', Bool.not_eq_false'] at hg) <;> simp only [hg] <;> (try simp only [decide_eq_true_eq, decide_eq_false_iff_not] at hg) <;> (try (exfalso; omega)))
        | ((first | (with_reducible apply FunH_intro) | (with_reducible apply AQ_intro)); (first | exact l03Find_c _ Ks key _ (rA0 _ _ _) (by omega) | exact l03Find_c _ _ _ _ (by first | assumption | exact RdL.app (by assumption) _ | exact RdL_hj rfl (by simp) | exact RdL_h0 rfl (by simp) | exact RdL_nil | exact RdL_emp) (by first | assumption | omega | (simp; omega) | (simp; done)) | exact l03Lowest_c _ _ _ (by first | assumption | exact RdL.app (by assumption) _ | exact RdL_hj rfl (by simp) | exact RdL_h0 rfl (by simp) | exact RdL_nil | exact RdL_emp) (by first | assumption | omega | (simp; omega) | (simp; done)) (by first | assumption | omega | (simp; omega) | (simp; done))))
        | (clear hK K)
        | fail)
      refine EndA_cutS (T4.closedT D hcl _ _ _ _ _ _ _ _ _ _ _) (by simp only [T4.len]; exact Nat.le_refl _) (by first | exact Or.inr rfl | exact Or.inl rfl) (by simp only [Try.results65, resA, aresL, go_sem] <;> rfl) rfl ?_
      refine ⟨rfl, ?_⟩
      simp only [List.length_append, List.length_cons, List.length_nil, lC, lE, hm]
    · have hS : tpS room Ks C E key = (Ks.set (lowN C) key, C.set (lowN C) (ix C (lowN C) + 1), E.set (lowN C) (ix C (lowN C)), 0) := by unfold tpS; rw [if_neg ha, if_neg hr]
      obtain ⟨k, k1, k2, k3, k4⟩ := at1_low (C := C) (by omega)
      have w1 := bC _ (ix_mem C k k2)
      have gk := gC k k2
      have k3' : foldM min C = ix C k := k3.symm
      have k1' : at1 C (ix C k) = k := by rw [k3]; exact k1
      simp only [hS, k4]
      (refine FunH_body tyOk Try.func65 rfl (by kernel_rfl) Try.ntmps65 (fun hcl hbd => ?_); simp only [List.length_cons, List.length_nil, Nat.reduceAdd, Nat.reduceSub, List.replicate, List.cons_append, List.nil_append])
      repeat' (first
        | ((with_reducible refine hK _ _ ?_); clear hK K)
        | ((with_reducible refine hK _ ?_); clear hK K; try simp only [])
        | ((first | (with_reducible show AOp _ _ _ _ _ _ _) | (with_reducible show AQOp _ _ _ _ _ _ _)); simp (disch := first | ((with_reducible show liveO _ _ _ = true); first | assumption | (exact liveO_i (T4.gp D)) | (exact liveO_i (T4.gb D)) | (exact liveO_i (T4.gc D)) | (exact liveO_i (T4.ga D)) | (exact liveO_i (T4.gpA D)) | (exact liveO_i (T4.gbA D)) | (exact liveO_i (T4.gcA D)) | (exact liveO_i (T4.gaA D)) | (exact liveO_setS (by assumption)) | (exact PtL.live (by assumption)) | (exact PtL.liveA (by assumption) _) | (simp only [go_sem]; done)) | omega | assumption | rfl | (simp only [go_sem]; first | done | omega)) only [go_sem, reduceIte, reduceCtorEq, Nat.reduceAdd, Nat.reduceMul, Nat.reduceSub, Nat.reduceLeDiff, Nat.lt_irrefl, Nat.reduceLT, Nat.reduceEqDiff, Nat.reduceBEq, Int.reduceLE, Int.reduceLT, Int.reduceToNat, w64, eq_self, hk, k1', k3', k4, hget_i (T4.gp D), hget_i (T4.ga D), hget_i (T4.gb D), hget_i (T4.gc D), hput_i (T4.ga D), hput_i (T4.gb D), hput_i (T4.gc D), T4.sa D, T4.sb D, T4.sc D, gk, lC, lE, hm, set_mapI])
        | (with_reducible refine AW_seq (fun K hK => ?_))
        | (with_reducible refine AW_region tyOk ?_)
        | ((with_reducible refine AW_quiet (id := 3) tyOk ?_ ?_ ?_); (kernel_rfl); (kernel_rfl))
        | ((with_reducible refine AW_drawn (id := 9) tyOk 13 ?_ ?_ ?_); (kernel_rfl); (kernel_rfl); simp only [List.take_succ_cons, List.take_zero, List.drop_succ_cons, List.drop_zero])
        | (with_reducible refine AOps_cons (fun K hK => ?_))
        | (with_reducible refine AQOps_cons (fun K hK => ?_))
        | ((with_reducible refine AQOps_nil ?_); try simp only [thenA, blockA, if_true, if_false, reduceIte, Nat.reduceEqDiff, reduceCtorEq])
        | ((with_reducible refine AOps_nil ?_); try simp only [thenA, blockA, if_true, if_false, reduceIte, Nat.reduceEqDiff, reduceCtorEq])
        | (with_reducible refine AW_block ?_)
        | ((first | (with_reducible refine AW_ret ?_) | (with_reducible refine AW_skip ?_) | (with_reducible refine AW_exit ?_)); try simp only [thenA, blockA, if_true, if_false, reduceIte, Nat.reduceEqDiff, reduceCtorEq])
        | ((with_reducible show AW _ _ (.cond _ _ _) _ _ _); refine AW_cond rfl (fun hg => ?_) (fun hg => ?_) <;> first | (exfalso; simp only [reduceCtorEq] at hg; done) | ((try simp only [Bool.not_eq_true', Bool.not_eq_false', decide_eq_true_eq, decide_eq_false_iff_not] at hg); try (exfalso; omega)))
        | ((with_reducible show _ ∧ _); refine And.intro (fun hg => ?_) (fun hg => ?_) <;> (try simp only [Bool.not_eq_true', Bool.not_eq_false'] at hg) <;> simp only [hg] <;> (try simp only [decide_eq_true_eq, decide_eq_false_iff_not] at hg) <;> (try (exfalso; omega)))
        | ((first | (with_reducible apply FunH_intro) | (with_reducible apply AQ_intro)); (first | exact l03Find_c _ Ks key _ (rA0 _ _ _) (by omega) | exact l03Lowest_c _ C _ (rB0 _ _ _) (by omega) (by omega) | exact slicesMin_c _ C _ (rB0 _ _ _) (by omega) (by omega) | exact l03Find_c _ _ _ _ (by first | assumption | exact RdL.app (by assumption) _ | exact RdL_hj rfl (by simp) | exact RdL_h0 rfl (by simp) | exact RdL_nil | exact RdL_emp) (by first | assumption | omega | (simp; omega) | (simp; done)) | exact l03Lowest_c _ _ _ (by first | assumption | exact RdL.app (by assumption) _ | exact RdL_hj rfl (by simp) | exact RdL_h0 rfl (by simp) | exact RdL_nil | exact RdL_emp) (by first | assumption | omega | (simp; omega) | (simp; done)) (by first | assumption | omega | (simp; omega) | (simp; done))))
        | (clear hK K)
        | fail)
      refine EndA_same (by first | exact Or.inr rfl | exact Or.inl rfl) (by simp only [Try.results65, resA, aresL, go_sem] <;> rfl) ?_
      refine ⟨rfl, ?_⟩
      simp only [List.length_set, Nat.add_zero, lC, lE, hm]
end Go.Proofs.Ytfofkebkcjkjeaa
