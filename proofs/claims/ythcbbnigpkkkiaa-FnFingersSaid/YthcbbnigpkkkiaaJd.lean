/- Different keys of a source, in the abstract machine. -/
import Derived.Test.YthcbbnigpkkkiaaPc
namespace Go.Proofs.Ythcbbnigpkkkiaa
open Go.RowKit
set_option linter.unusedSimpArgs false
set_option linter.unusedVariables false
set_option maxRecDepth 100000

def pk2 (xs : List Int) (a : Nat) (n : Int) : Int := (srA xs a * 256 + srA xs (a + 1)).tmod n
theorem pk2_in {xs : List Int} (h : byB xs) (a : Nat) {n : Int} (hn : 1 ≤ n) : 0 ≤ pk2 xs a n ∧ pk2 xs a n < n := by
  have h1 := srA_in h a
  have h2 := srA_in h (a + 1)
  exact tmod_in (by omega) hn
set_option maxHeartbeats 4000000 in
theorem pick2_c (id ver el : Nat) (lv : LV) (xs : List Int) (a : Nat) (n : Int) (H : Hp) (hp : H[id]? = some ⟨ver, false, el, 3, [lv, .int .i64 (a : Nat), .int .u64 (srN xs a)]⟩) (h : RdL H lv (xs.map (LV.int .u8))) (hne : ∀ v off n cap, lv ≠ .sl id v off n cap) (hb : byB xs) (hl : xs.length ≤ 9223372036854775807) (ha : a ≤ 100000) (hn : 201 ≤ n ∧ n ≤ 4294967296) :
    FunH Try.prog 14 [.ptr id ver 0, .int .i64 n] H fun r H' => r = .int .i64 (pk2 xs a n) ∧ H' = H.set id ⟨ver, false, el, 3, [lv, .int .i64 ((a + 2 : Nat)), .int .u64 (srN xs (a + 2))]⟩ := by
  have hn0 : ¬ n = 0 := by omega
  have hlt := lt_getF' hp
  have h1 := srA_in hb a
  have h2 := srA_in hb (a + 1)
  have hw1 : IntKind.i64.wrap (srA xs a * 256) = srA xs a * 256 := w64 _ (by omega) (by omega)
  have hw2 : IntKind.i64.wrap (srA xs a * 256 + srA xs (a + 1)) = srA xs a * 256 + srA xs (a + 1) := w64 _ (by omega) (by omega)
  have c1 := next_c id ver el lv xs a (srN xs a) H hp h hb hl (by omega)
  have e1 : srO xs a (srN xs a) = srA xs a := rfl
  have e2 : srS (srN xs a) (srB xs a) = srN xs (a + 1) := rfl
  rw [e1, e2] at c1
  have c2 := next_c id ver el lv xs (a + 1) (srN xs (a + 1)) (H.set id ⟨ver, false, el, 3, [lv, .int .i64 ((a + 1 : Nat)), .int .u64 (srN xs (a + 1))]⟩) (List.getElem?_set_self hlt) (h.set hp hne) hb hl (by omega)
  have e3 : srO xs (a + 1) (srN xs (a + 1)) = srA xs (a + 1) := rfl
  have e4 : srS (srN xs (a + 1)) (srB xs (a + 1)) = srN xs (a + 2) := rfl
  rw [e3, e4, List.set_set] at c2
  have e5 : (srA xs a * 256 + srA xs (a + 1)).tmod n = pk2 xs a n := rfl
  (refine FunH_body tyOk Try.func14 rfl (by kernel_rfl) Try.ntmps14 (fun hcl hbd => ?_); simp only [List.length_cons, List.length_nil, Nat.reduceAdd, Nat.reduceSub, List.replicate, List.cons_append, List.nil_append])
  repeat' (first
 | ((with_reducible refine hK _ _ ?_); clear hK K)
 | ((first | (with_reducible show AOp _ _ _ _ _ _ _)); simp (disch := first | ((with_reducible show liveO _ _ _ = true); first | assumption | (exact liveO_setS (by assumption)) | (exact PtL.live (by assumption)) | (exact PtL.liveA (by assumption) _) | (simp only [go_sem]; done)) | omega | assumption | rfl | (simp only [go_sem]; first | done | omega)) only [go_sem, reduceIte, reduceCtorEq, Nat.reduceAdd, Nat.reduceMul, Nat.reduceSub, Nat.reduceLeDiff, Nat.lt_irrefl, Nat.reduceLT, Nat.reduceEqDiff, Nat.reduceBEq, Int.reduceLE, Int.reduceLT, Int.reduceToNat, w64, eq_self, hn0, hw1, hw2, e5])
 | (with_reducible refine AW_seq (fun K hK => ?_))
 | (with_reducible refine AW_region tyOk ?_)
 | (with_reducible refine AOps_cons (fun K hK => ?_))
 | ((with_reducible refine AOps_nil ?_); try simp only [thenA, blockA, if_true, if_false, reduceIte, Nat.reduceEqDiff, reduceCtorEq])
 | (with_reducible refine AW_block ?_)
 | ((first | (with_reducible refine AW_ret ?_) | (with_reducible refine AW_skip ?_) | (with_reducible refine AW_exit ?_)); try simp only [thenA, blockA, if_true, if_false, reduceIte, Nat.reduceEqDiff, reduceCtorEq])
 | ((with_reducible show AW _ _ (.cond _ _ _) _ _ _); refine AW_cond rfl (fun hg => ?_) (fun hg => ?_) <;> first | (exfalso; simp only [reduceCtorEq] at hg; done) | ((try simp only [Bool.not_eq_true', Bool.not_eq_false', decide_eq_true_eq, decide_eq_false_iff_not] at hg); try (exfalso; omega)))
 | ((with_reducible show _ ∧ _); refine And.intro (fun hg => ?_) (fun hg => ?_) <;> (try simp only [Bool.not_eq_true', Bool.not_eq_false'] at hg) <;> simp only [hg] <;> (try simp only [decide_eq_true_eq, decide_eq_false_iff_not] at hg) <;> (try (exfalso; omega)))
 | ((with_reducible apply FunH_intro); (first | exact c1 | exact c2))
 | (clear hK K)
    | fail)
  all_goals try (exfalso; omega)
  all_goals (first | refine EndA_cut hcl (by first | exact Or.inr rfl | exact Or.inl rfl) (by simp only [Try.results14, resA, aresL, go_sem, reduceIte, reduceCtorEq, Nat.reduceAdd, Nat.reduceMul, Nat.reduceSub, Nat.reduceLeDiff, Nat.lt_irrefl, Nat.reduceLT, Nat.reduceEqDiff, Nat.reduceBEq, Int.reduceLE, Int.reduceLT, Int.reduceToNat, w64, eq_self] <;> rfl) rfl ?_ | refine EndA_same (by first | exact Or.inr rfl | exact Or.inl rfl) (by simp only [Try.results14, resA, aresL, go_sem, reduceIte, reduceCtorEq, Nat.reduceAdd, Nat.reduceMul, Nat.reduceSub, Nat.reduceLeDiff, Nat.lt_irrefl, Nat.reduceLT, Nat.reduceEqDiff, Nat.reduceBEq, Int.reduceLE, Int.reduceLT, Int.reduceToNat, w64, eq_self] <;> rfl) ?_)
  all_goals exact ⟨rfl, rfl⟩
def r8V (xs : List Int) : Nat → Int
  | 0 => (srA xs 0).tmod 100
  | k + 1 => r8V xs k + (1 + pk2 xs (1 + 2 * k) 1000000)
def r8D (xs : List Int) (n : Nat) : List Int := (List.range n).map (r8V xs)
theorem r8D_len (xs : List Int) (n : Nat) : (r8D xs n).length = n := by simp [r8D]
theorem r8D_succ (xs : List Int) (n : Nat) : r8D xs (n + 1) = r8D xs n ++ [r8V xs n] := by simp [r8D, List.range_succ]
theorem r8V_in {xs : List Int} (h : byB xs) : ∀ k, 0 ≤ r8V xs k ∧ r8V xs k ≤ 100 + 1000000 * (k : Nat)
  | 0 => by
    have h1 := srA_in h 0
    have := tmod_in h1.1 (n := 100) (by omega)
    unfold r8V; omega
  | k + 1 => by
    have := r8V_in h k
    have h1 := pk2_in h (1 + 2 * k) (n := 1000000) (by omega)
    show 0 ≤ r8V xs k + (1 + pk2 xs (1 + 2 * k) 1000000) ∧ r8V xs k + (1 + pk2 xs (1 + 2 * k) 1000000) ≤ _
    omega
theorem r8V_lt {xs : List Int} (h : byB xs) {i : Nat} : ∀ j, i < j → r8V xs i < r8V xs j
  | 0, hj => absurd hj (Nat.not_lt_zero _)
  | j + 1, hj => by
    have h1 := pk2_in h (1 + 2 * j) (n := 1000000) (by omega)
    show r8V xs i < r8V xs j + (1 + pk2 xs (1 + 2 * j) 1000000)
    rcases Nat.lt_or_ge i j with h2 | h2
    · have := r8V_lt h j h2; omega
    · obtain rfl : i = j := by omega
      omega
set_option maxHeartbeats 4000000 in
theorem R8Different_c (lv : LV) (xs : List Int) (n : Nat) (H : Hp) (h : RdL H lv (xs.map (LV.int .u8))) (hb : byB xs) (hl : xs.length ≤ 9223372036854775807) (hn : n ≤ 1000) :
    FunH Try.prog 5 [lv, .int .i64 (n : Nat)] H fun r H' => r = .sl H.length 0 0 n none ∧ H' = H ++ [⟨0, false, 2, 1, (r8D xs n).map (LV.int .i64)⟩] := by
  have hne : ∀ v off n cap, lv ≠ .sl H.length v off n cap := fun v off n cap e => by
    have := h.bnd; rw [e] at this
    exact absurd this (Nat.lt_irrefl _)
  have c0 := fun K => pick_c H.length 0 57 lv xs 0 (srN xs 0) 100 (H ++ (⟨0, false, 57, 3, [lv, .int .i64 ((0 : Nat) : Int), .int .u64 (srN xs 0)]⟩ :: K)) ((hp_get0 _ _).trans rfl) (h.app _) hb hl (by omega) (by omega)
  have e1 : (srO xs 0 (srN xs 0)).tmod 100 = r8V xs 0 := rfl
  have e2 : srS (srN xs 0) (srB xs 0) = srN xs 1 := rfl
  have e0 : srN xs 0 = 0 := rfl
  rw [e1, e2] at c0
  rw [e0] at c0
  simp only [hp_set0, List.set_cons_zero, Int.natCast_zero, Nat.zero_add, Int.ofNat_zero] at c0
  (refine FunH_body tyOk Try.func5 rfl (by kernel_rfl) Try.ntmps5 (fun hcl hbd => ?_); simp only [List.length_cons, List.length_nil, Nat.reduceAdd, Nat.reduceSub, List.replicate, List.cons_append, List.nil_append])
  repeat' (first
 | ((with_reducible refine hK _ _ ?_); clear hK K)
 | ((first | (with_reducible show AOp _ _ _ _ _ _ _)); simp (disch := first | ((with_reducible show liveO _ _ _ = true); first | assumption | (exact liveO_setS (by assumption)) | (exact PtL.live (by assumption)) | (exact PtL.liveA (by assumption) _) | (simp only [go_sem]; done)) | omega | assumption | rfl | (simp only [go_sem]; first | done | omega)) only [go_sem, reduceIte, reduceCtorEq, Nat.reduceAdd, Nat.reduceMul, Nat.reduceSub, Nat.reduceLeDiff, Nat.lt_irrefl, Nat.reduceLT, Nat.reduceEqDiff, Nat.reduceBEq, Int.reduceLE, Int.reduceLT, Int.reduceToNat, w64, eq_self])
 | (with_reducible refine AW_seq (fun K hK => ?_))
 | (with_reducible refine AW_region tyOk ?_)
 | (with_reducible refine AOps_cons (fun K hK => ?_))
 | ((with_reducible refine AOps_nil ?_); try simp only [thenA, blockA, if_true, if_false, reduceIte, Nat.reduceEqDiff, reduceCtorEq])
 | (with_reducible refine AW_block ?_)
 | ((first | (with_reducible refine AW_ret ?_) | (with_reducible refine AW_skip ?_) | (with_reducible refine AW_exit ?_)); try simp only [thenA, blockA, if_true, if_false, reduceIte, Nat.reduceEqDiff, reduceCtorEq])
 | ((with_reducible show AW _ _ (.cond _ _ _) _ _ _); refine AW_cond rfl (fun hg => ?_) (fun hg => ?_) <;> first | (exfalso; simp only [reduceCtorEq] at hg; done) | ((try simp only [Bool.not_eq_true', Bool.not_eq_false', decide_eq_true_eq, decide_eq_false_iff_not] at hg); try (exfalso; omega)))
 | ((with_reducible show _ ∧ _); refine And.intro (fun hg => ?_) (fun hg => ?_) <;> (try simp only [Bool.not_eq_true', Bool.not_eq_false'] at hg) <;> simp only [hg] <;> (try simp only [decide_eq_true_eq, decide_eq_false_iff_not] at hg) <;> (try (exfalso; omega)))
 | ((with_reducible apply FunH_intro); (first | ((with_reducible show FunH _ 13 _ _ _); exact l00From_c lv xs _ h) | ((with_reducible show FunH _ 14 _ _ _); exact c0 _)))
 | (clear hK K)
    | fail)
  refine AW_loopV [1, 6, 7, 13, 14, 15, 16, 17, 18, 19, 20, 21, 22, 23, 24, 25] (fun p : Nat × Hp => [(1, .int .i64 ((n : Int) - (p.1 : Nat))), (6, .sl (H.length + 1) p.1 0 p.1 none), (7, .int .i64 (r8V xs p.1))]) (fun p => H ++ (⟨0, false, 57, 3, [lv, .int .i64 ((1 + 2 * p.1 : Nat) : Int), .int .u64 (srN xs (1 + 2 * p.1))]⟩ :: ⟨p.1, false, 2, 1, (r8D xs p.1).map (LV.int .i64)⟩ :: p.2)) (fun p => p.1 ≤ n) (fun p => n - p.1) (0, []) (Nat.zero_le _) ?_ rfl ?_
  · simp only [junkAll, setAll, List.foldl_cons, List.foldl_nil, List.set_cons_succ, List.set_cons_zero, JL, true_or, or_true, and_true, true_and, reduceCtorEq, false_or, or_false, LV.int.injEq, LV.bool.injEq, LV.flt.injEq, LV.sl.injEq, LV.ptr.injEq, eq_self, Int.natCast_add, Int.natCast_one, Int.natCast_zero, Int.ofNat_zero]; omega
  intro ⟨k, G⟩ hk K hK
  simp only at hk
  simp only [junkAll, setAll, List.foldl_cons, List.foldl_nil, List.set_cons_succ, List.set_cons_zero]
  have hdl : (r8D xs k).length = k := r8D_len xs k
  by_cases hkn : k < n
  · have c2 := fun K => pick2_c H.length 0 57 lv xs (1 + 2 * k) 1000000 (H ++ (⟨0, false, 57, 3, [lv, .int .i64 ((1 + 2 * k : Nat) : Int), .int .u64 (srN xs (1 + 2 * k))]⟩ :: K)) ((hp_get0 _ _).trans rfl) (h.app _) hne hb hl (by omega) (by omega)
    rw [show 1 + 2 * k + 2 = 1 + 2 * (k + 1) by omega] at c2
    simp only [hp_set0, List.set_cons_zero] at c2
    have v1 := r8V_in hb k
    have v2 := pk2_in hb (1 + 2 * k) (n := 1000000) (by omega)
    have w1 : IntKind.i64.wrap (1 + pk2 xs (1 + 2 * k) 1000000) = 1 + pk2 xs (1 + 2 * k) 1000000 := w64 _ (by omega) (by omega)
    have w2 : IntKind.i64.wrap (r8V xs k + (1 + pk2 xs (1 + 2 * k) 1000000)) = r8V xs (k + 1) := w64 _ (by omega) (by omega)
    have hpos : (0 : Int) < (n : Int) - (k : Nat) := by omega
    have hdm : ((r8D xs k).map (LV.int .i64)).length = k := by rw [List.length_map, hdl]
    have hdc : ((r8D xs k).map (LV.int .i64)).all LV.isCell = true := by rw [List.all_eq_true]; intro x hx; obtain ⟨y, _, rfl⟩ := List.mem_map.1 hx; rfl
    repeat' (first
 | ((with_reducible refine hK _ _ ?_); clear hK K)
 | ((first | (with_reducible show AOp _ _ _ _ _ _ _)); simp (disch := first | ((with_reducible show liveO _ _ _ = true); first | assumption | (exact liveO_setS (by assumption)) | (exact PtL.live (by assumption)) | (exact PtL.liveA (by assumption) _) | (simp only [go_sem]; done)) | omega | assumption | rfl | (simp only [go_sem]; first | done | omega)) only [go_sem, reduceIte, reduceCtorEq, Nat.reduceAdd, Nat.reduceMul, Nat.reduceSub, Nat.reduceLeDiff, Nat.lt_irrefl, Nat.reduceLT, Nat.reduceEqDiff, Nat.reduceBEq, Int.reduceLE, Int.reduceLT, Int.reduceToNat, w64, eq_self, hpos, w1, w2, hdl, hdm, hdc])
 | (with_reducible refine AW_seq (fun K hK => ?_))
 | (with_reducible refine AW_region tyOk ?_)
 | (with_reducible refine AOps_cons (fun K hK => ?_))
 | ((with_reducible refine AOps_nil ?_); try simp only [thenA, blockA, if_true, if_false, reduceIte, Nat.reduceEqDiff, reduceCtorEq])
 | (with_reducible refine AW_block ?_)
 | ((first | (with_reducible refine AW_ret ?_) | (with_reducible refine AW_skip ?_) | (with_reducible refine AW_exit ?_)); try simp only [thenA, blockA, if_true, if_false, reduceIte, Nat.reduceEqDiff, reduceCtorEq])
 | ((with_reducible show AW _ _ (.cond _ _ _) _ _ _); refine AW_cond rfl (fun hg => ?_) (fun hg => ?_) <;> first | (exfalso; simp only [reduceCtorEq] at hg; done) | ((try simp only [Bool.not_eq_true', Bool.not_eq_false', decide_eq_true_eq, decide_eq_false_iff_not] at hg); try (exfalso; omega)))
 | ((with_reducible show _ ∧ _); refine And.intro (fun hg => ?_) (fun hg => ?_) <;> (try simp only [Bool.not_eq_true', Bool.not_eq_false'] at hg) <;> simp only [hg] <;> (try simp only [decide_eq_true_eq, decide_eq_false_iff_not] at hg) <;> (try (exfalso; omega)))
 | ((with_reducible apply FunH_intro); (first | ((with_reducible show FunH _ 14 _ _ _); exact c2 _)))
 | (clear hK K)
      | fail)
    refine hK _ _ (k + 1, ?G1) (by simp only; omega) (by simp only; omega) ?_ ?h1
    case h1 => (simp only [r8D_succ, List.map_append, List.map_cons, List.map_nil]; rfl)
    · simp only [junkAll, setAll, List.foldl_cons, List.foldl_nil, List.set_cons_succ, List.set_cons_zero, JL, true_or, or_true, and_true, true_and, reduceCtorEq, false_or, or_false, LV.int.injEq, LV.bool.injEq, LV.flt.injEq, LV.sl.injEq, LV.ptr.injEq, eq_self, Int.natCast_add, Int.natCast_one, Int.natCast_zero, Int.ofNat_zero]; omega
  · have e : n = k := by omega
    subst e
    repeat' (first
 | ((with_reducible refine hK _ _ ?_); clear hK K)
 | ((first | (with_reducible show AOp _ _ _ _ _ _ _)); simp (disch := first | ((with_reducible show liveO _ _ _ = true); first | assumption | (exact liveO_setS (by assumption)) | (exact PtL.live (by assumption)) | (exact PtL.liveA (by assumption) _) | (simp only [go_sem]; done)) | omega | assumption | rfl | (simp only [go_sem]; first | done | omega)) only [go_sem, reduceIte, reduceCtorEq, Nat.reduceAdd, Nat.reduceMul, Nat.reduceSub, Nat.reduceLeDiff, Nat.lt_irrefl, Nat.reduceLT, Nat.reduceEqDiff, Nat.reduceBEq, Int.reduceLE, Int.reduceLT, Int.reduceToNat, w64, eq_self])
 | (with_reducible refine AW_seq (fun K hK => ?_))
 | (with_reducible refine AW_region tyOk ?_)
 | (with_reducible refine AOps_cons (fun K hK => ?_))
 | ((with_reducible refine AOps_nil ?_); try simp only [thenA, blockA, if_true, if_false, reduceIte, Nat.reduceEqDiff, reduceCtorEq])
 | (with_reducible refine AW_block ?_)
 | ((first | (with_reducible refine AW_ret ?_) | (with_reducible refine AW_skip ?_) | (with_reducible refine AW_exit ?_)); try simp only [thenA, blockA, if_true, if_false, reduceIte, Nat.reduceEqDiff, reduceCtorEq])
 | ((with_reducible show AW _ _ (.cond _ _ _) _ _ _); refine AW_cond rfl (fun hg => ?_) (fun hg => ?_) <;> first | (exfalso; simp only [reduceCtorEq] at hg; done) | ((try simp only [Bool.not_eq_true', Bool.not_eq_false', decide_eq_true_eq, decide_eq_false_iff_not] at hg); try (exfalso; omega)))
 | ((with_reducible show _ ∧ _); refine And.intro (fun hg => ?_) (fun hg => ?_) <;> (try simp only [Bool.not_eq_true', Bool.not_eq_false'] at hg) <;> simp only [hg] <;> (try simp only [decide_eq_true_eq, decide_eq_false_iff_not] at hg) <;> (try (exfalso; omega)))
 | (clear hK K)
      | fail)
    refine EndA_rows [some 1] hcl (by first | exact Or.inr rfl | exact Or.inl rfl) (by simp only [Try.results5, resA, aresL, go_sem, reduceIte, reduceCtorEq, Nat.reduceAdd, Nat.reduceMul, Nat.reduceSub, Nat.reduceLeDiff, Nat.lt_irrefl, Nat.reduceLT, Nat.reduceEqDiff, Nat.reduceBEq, Int.reduceLE, Int.reduceLT, Int.reduceToNat, w64, eq_self] <;> rfl) (by decide) ?_ ?_ ⟨rfl, rfl⟩
    rotate_left
    · repeat' (first | exact trivial | apply TdT.tup | apply TdT.one | apply TdL.agg | apply TdL.cell | exact TdB.old _ trivial rfl | exact TdB.own 0 1 _ _ _ _ rfl _ rfl rfl | exact TdB.junk _ | exact TdB.old _ (by assumption) (by assumption) | refine And.intro ?_ ?_)
    all_goals (repeat' (first | (with_reducible exact RowOk.none) | ((with_reducible apply RowOk.emp); exact rfl) | ((with_reducible apply RowOk.eq); (exact rfl); rotate_left; (first | (with_reducible exact scal_int _ _) | (with_reducible exact scal_flt _ _) | (with_reducible exact scal_bool _) | (intro c hc; cases hc; done) | (simp [LV.isCell, bnd]; done))) | exact trivial | refine And.intro ?_ ?_))
    all_goals (try rfl)
end Go.Proofs.Ythcbbnigpkkkiaa
