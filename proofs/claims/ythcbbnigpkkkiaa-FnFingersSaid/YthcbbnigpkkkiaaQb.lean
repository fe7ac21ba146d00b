/- slices.DeleteFunc on a row of one's own, in the abstract machine. -/
import Derived.Test.YthcbbnigpkkkiaaZo
import Derived.Test.YthcbbnigpkkkiaaHl
import Derived.Test.YthcbbnigpkkkiaaNk
import Derived.Test.YthcbbnigpkkkiaaEb
namespace Go.Proofs.Ythcbbnigpkkkiaa
open Go.RowKit
set_option linter.unusedSimpArgs false
set_option linter.unusedVariables false
set_option maxRecDepth 100000

def keepF (p : Int → Bool) (xs : List Int) : List Int := xs.filter fun x => !p x
def dlC (p : Int → Bool) (xs : List Int) (i : Nat) : List LV := (keepF p (xs.take i)).map (LV.int .i64) ++ (xs.drop (keepF p (xs.take i)).length).map (LV.int .i64)
theorem keepF_le (p : Int → Bool) (xs : List Int) (i : Nat) : (keepF p (xs.take i)).length ≤ i := by
  unfold keepF
  refine Nat.le_trans (List.length_filter_le _ _) ?_
  rw [List.length_take]; omega
theorem keepF_succ (p : Int → Bool) {xs : List Int} {i : Nat} (h : i < xs.length) : keepF p (xs.take (i + 1)) = keepF p (xs.take i) ++ (if p (ix xs i) then [] else [ix xs i]) := by
  unfold keepF
  rw [take_ix _ _ h, List.filter_append]
  congr 1
  cases e : p (ix xs i) <;> simp [e]
theorem dlC_len (p : Int → Bool) (xs : List Int) (i : Nat) (h : i ≤ xs.length) : (dlC p xs i).length = xs.length := by
  have := keepF_le p xs i
  unfold dlC
  rw [List.length_append, List.length_map, List.length_map, List.length_drop]; omega
theorem dlC_get (p : Int → Bool) {xs : List Int} {i : Nat} (h : i < xs.length) : (dlC p xs i)[i]? = some (.int .i64 (ix xs i)) := by
  have h1 := keepF_le p xs i
  unfold dlC
  rw [List.getElem?_append_right (by rw [List.length_map]; exact h1), List.length_map, List.getElem?_map, List.getElem?_drop, show (keepF p (xs.take i)).length + (i - (keepF p (xs.take i)).length) = i by omega, ix_get? _ _ h]
  rfl
theorem dlC_set (p : Int → Bool) {xs : List Int} {i : Nat} (h : i < xs.length) (hp : p (ix xs i) = false) : (dlC p xs i).set (keepF p (xs.take i)).length (.int .i64 (ix xs i)) = dlC p xs (i + 1) := by
  have h1 := keepF_le p xs i
  have e : keepF p (xs.take (i + 1)) = keepF p (xs.take i) ++ [ix xs i] := by rw [keepF_succ p h, hp]; rfl
  unfold dlC
  rw [e, List.set_append_right _ _ (by rw [List.length_map]; exact Nat.le_refl _), List.length_map, Nat.sub_self, List.map_append, List.length_append, List.append_assoc]
  congr 1
  rw [drop_ixQ xs (keepF p (xs.take i)).length (by omega), List.map_cons, List.set_cons_zero]
  rfl
where drop_ixQ (xs : List Int) (k : Nat) (h : k < xs.length) : xs.drop k = ix xs k :: xs.drop (k + 1) := by rw [ix_eq _ _ h]; exact List.drop_eq_getElem_cons h
theorem dlC_same (p : Int → Bool) {xs : List Int} {i : Nat} (h : i < xs.length) (hp : p (ix xs i) = true) : dlC p xs (i + 1) = dlC p xs i := by
  unfold dlC
  rw [keepF_succ p h, hp]; simp
theorem keepF_none {p : Int → Bool} {xs : List Int} (h : ∀ x ∈ xs, p x = false) : keepF p xs = xs := by
  unfold keepF
  rw [List.filter_eq_self]
  intro x hx; rw [h x hx]; rfl
theorem idxF_spec {α : Type} [Inhabited α] {p : α → Bool} {xs : List α} (h : idxF p xs ≠ -1) : ∃ k : Nat, idxF p xs = k ∧ k < xs.length ∧ p (ix xs k) = true ∧ ∀ j, j < k → p (ix xs j) = false := by
  by_cases hn : ∃ j, j < xs.length ∧ p (ix xs j) = true
  · obtain ⟨j, hj, hp⟩ := hn
    have : ∀ m, ∀ j, j ≤ m → j < xs.length → p (ix xs j) = true → ∃ k, k < xs.length ∧ p (ix xs k) = true ∧ ∀ i, i < k → p (ix xs i) = false := by
      intro m
      induction m with
      | zero => intro j h1 h2 h3; exact ⟨j, h2, h3, fun i hi => by omega⟩
      | succ m ih =>
        intro j h1 h2 h3
        by_cases h4 : ∃ i, i < j ∧ p (ix xs i) = true
        · obtain ⟨i, h5, h6⟩ := h4; exact ih i (by omega) (by omega) h6
        · exact ⟨j, h2, h3, fun i hi => by
            cases e : p (ix xs i) with
            | false => rfl
            | true => exact absurd ⟨i, hi, e⟩ h4⟩
    obtain ⟨k, h1, h2, h3⟩ := this j j (Nat.le_refl _) hj hp
    exact ⟨k, idxF_at h1 h2 h3, h1, h2, h3⟩
  · refine absurd (idxF_none fun j hj => ?_) h
    cases e : p (ix xs j) with
    | false => rfl
    | true => exact absurd ⟨j, hj, e⟩ hn
theorem mem_ixQ {xs : List Int} {x : Int} (h : x ∈ xs) : ∃ j, j < xs.length ∧ ix xs j = x := by
  obtain ⟨j, hj, e⟩ := List.getElem_of_mem h
  exact ⟨j, hj, by rw [ix_eq _ _ hj, e]⟩
set_option maxHeartbeats 2000000 in
theorem DeleteFunc_int64_c (id ver el n : Nat) (xs : List Int) (p : Int → Bool) (g : FuncId) (caps : List LV) (H : Hp) (h : H[id]? = some ⟨ver, false, el, 1, xs.map (LV.int .i64)⟩) (hn : xs.length = n) (hb : n ≤ 1048576)
    (hf : ∀ x ∈ xs, ∀ X, FunH Try.prog g (.int .i64 x :: caps) (H.set id ⟨ver, false, el, 1, X⟩) fun r H' => r = .bool (p x) ∧ H' = H.set id ⟨ver, false, el, 1, X⟩) :
    FunH Try.prog 28 [.sl id ver 0 n none, .fn g caps] H fun r H' => r = .sl id ver 0 (keepF p xs).length none ∧ H' = H.set id ⟨ver, false, el, 1, (keepF p xs).map (LV.int .i64)⟩ := by
  subst hn
  have hid := lt_of_get h
  have hH : H.set id ⟨ver, false, el, 1, xs.map (LV.int .i64)⟩ = H := set_self h
  have hf0 : ∀ x ∈ xs, FunH Try.prog g (.int .i64 x :: caps) H fun r H' => r = .bool (p x) ∧ H' = H := fun x hx => by have := hf x hx (xs.map (LV.int .i64)); rw [hH] at this; exact this
  have hix := IndexFunc_int64_c (.sl id ver 0 xs.length none) xs p g caps H (RdL_id h (by simp)) hf0 (by omega)
  by_cases hne : idxF p xs = -1
  · have hnp : ∀ x ∈ xs, p x = false := fun x hx => by
      obtain ⟨j, hj, rfl⟩ := mem_ixQ hx
      cases e : p (ix xs j) with
      | false => rfl
      | true =>
        have := idxF_nonneg (p := p) (xs := xs)
        rw [hne, List.any_eq_true.2 ⟨_, hx, e⟩] at this
        cases this
    rw [keepF_none hnp, hH]
    rw [hne] at hix
    (refine FunH_body tyOk Try.func28 rfl (by kernel_rfl) Try.ntmps28 (fun hcl hbd => ?_); simp only [List.length_cons, List.length_nil, Nat.reduceAdd, Nat.reduceSub, List.replicate, List.cons_append, List.nil_append])
    repeat' (first
 | ((with_reducible refine hK _ _ ?_); clear hK K)
 | ((first | (with_reducible show AOp _ _ _ _ _ _ _)); simp (disch := first | ((with_reducible show liveO _ _ _ = true); first | assumption | (exact liveO_setS (by assumption)) | (exact PtL.live (by assumption)) | (exact PtL.liveA (by assumption) _) | (simp only [go_sem]; done)) | omega | assumption | rfl | (simp only [go_sem]; first | done | omega)) only [go_sem, reduceIte, reduceCtorEq, Nat.reduceAdd, Nat.reduceMul, Nat.reduceSub, Nat.reduceLeDiff, Nat.lt_irrefl, Nat.reduceLT, Nat.reduceEqDiff, Nat.reduceBEq, Int.reduceLE, Int.reduceLT, Int.reduceToNat, w64, eq_self])
 | (with_reducible refine AW_seq (fun K hK => ?_))
 | (with_reducible refine AW_region tyOk ?_)
 | (with_reducible refine AOps_cons (fun K hK => ?_))
 | ((with_reducible refine AOps_nil ?_); try simp only [thenA, blockA, if_true, if_false, reduceIte, Nat.reduceEqDiff, reduceCtorEq])
 | (with_reducible refine AW_block ?_)
 | ((first | (with_reducible refine AW_ret ?_) | (with_reducible refine AW_skip ?_) | (with_reducible refine AW_exit ?_)); try simp only [thenA, blockA, if_true, if_false, reduceIte, Nat.reduceEqDiff, reduceCtorEq])
 | ((with_reducible show AW _ _ (.cond _ _ _) _ _ _); refine AW_cond rfl (fun hg => ?_) (fun hg => ?_) <;> first | (exfalso; simp only [reduceCtorEq] at hg; done) | ((try simp only [Bool.not_eq_true', Bool.not_eq_false', decide_eq_true_eq, decide_eq_false_iff_not] at hg); try (exfalso; omega)))
 | ((with_reducible show _ ∧ _); refine And.intro (fun hg => ?_) (fun hg => ?_) <;> (try simp only [Bool.not_eq_true', Bool.not_eq_false'] at hg) <;> simp only [hg] <;> (try simp only [decide_eq_true_eq, decide_eq_false_iff_not] at hg) <;> (try (exfalso; omega)))
 | ((with_reducible apply FunH_intro); (first | exact hix))
 | (clear hK K)
      | fail)
    all_goals (first | refine EndA_cut hcl (by first | exact Or.inr rfl | exact Or.inl rfl) (by simp only [Try.results28, resA, aresL, go_sem, reduceIte, reduceCtorEq, Nat.reduceAdd, Nat.reduceMul, Nat.reduceSub, Nat.reduceLeDiff, Nat.lt_irrefl, Nat.reduceLT, Nat.reduceEqDiff, Nat.reduceBEq, Int.reduceLE, Int.reduceLT, Int.reduceToNat, w64, eq_self] <;> rfl) rfl ?_ | refine EndA_same (by first | exact Or.inr rfl | exact Or.inl rfl) (by simp only [Try.results28, resA, aresL, go_sem, reduceIte, reduceCtorEq, Nat.reduceAdd, Nat.reduceMul, Nat.reduceSub, Nat.reduceLeDiff, Nat.lt_irrefl, Nat.reduceLT, Nat.reduceEqDiff, Nat.reduceBEq, Int.reduceLE, Int.reduceLT, Int.reduceToNat, w64, eq_self] <;> rfl) ?_)
    all_goals exact ⟨rfl, rfl⟩
  · obtain ⟨k, hk, hkl, hkp, hkn⟩ := idxF_spec hne
    rw [hk] at hix
    have hk0 : keepF p (xs.take k) = xs.take k := keepF_none fun x hx => by
      obtain ⟨j, hj, rfl⟩ := mem_ixQ hx
      rw [List.length_take] at hj
      have : ix (xs.take k) j = ix xs j := by rw [ix_eq _ _ (by rw [List.length_take]; exact hj), List.getElem_take, ix_eq _ _ (by omega)]
      rw [this]; exact hkn j (by omega)
    have hkk : keepF p (xs.take (k + 1)) = xs.take k := by rw [keepF_succ p hkl, hkp, hk0]; simp
    have hk1 : (keepF p (xs.take (k + 1))).length = k := by rw [hkk, List.length_take]; omega
    have hC : dlC p xs (k + 1) = xs.map (LV.int .i64) := by
      rw [dlC_same p hkl hkp]; unfold dlC
      rw [hk0, List.length_take, Nat.min_eq_left (by omega), ← List.map_append, List.take_append_drop]
    have hneg : (((k : Nat) : Int) == -1) = false := by simp
    (refine FunH_body tyOk Try.func28 rfl (by kernel_rfl) Try.ntmps28 (fun hcl hbd => ?_); simp only [List.length_cons, List.length_nil, Nat.reduceAdd, Nat.reduceSub, List.replicate, List.cons_append, List.nil_append])
    repeat' (first
 | ((with_reducible refine hK _ _ ?_); clear hK K)
 | ((first | (with_reducible show AOp _ _ _ _ _ _ _)); simp (disch := first | ((with_reducible show liveO _ _ _ = true); first | assumption | (exact liveO_setS (by assumption)) | (exact PtL.live (by assumption)) | (exact PtL.liveA (by assumption) _) | (simp only [go_sem]; done)) | omega | assumption | rfl | (simp only [go_sem]; first | done | omega)) only [go_sem, reduceIte, reduceCtorEq, Nat.reduceAdd, Nat.reduceMul, Nat.reduceSub, Nat.reduceLeDiff, Nat.lt_irrefl, Nat.reduceLT, Nat.reduceEqDiff, Nat.reduceBEq, Int.reduceLE, Int.reduceLT, Int.reduceToNat, w64, eq_self, hneg])
 | (with_reducible refine AW_seq (fun K hK => ?_))
 | (with_reducible refine AW_region tyOk ?_)
 | (with_reducible refine AOps_cons (fun K hK => ?_))
 | ((with_reducible refine AOps_nil ?_); try simp only [thenA, blockA, if_true, if_false, reduceIte, Nat.reduceEqDiff, reduceCtorEq])
 | (with_reducible refine AW_block ?_)
 | ((first | (with_reducible refine AW_ret ?_) | (with_reducible refine AW_skip ?_) | (with_reducible refine AW_exit ?_)); try simp only [thenA, blockA, if_true, if_false, reduceIte, Nat.reduceEqDiff, reduceCtorEq])
 | ((with_reducible show AW _ _ (.cond _ _ _) _ _ _); refine AW_cond rfl (fun hg => ?_) (fun hg => ?_) <;> first | (exfalso; simp only [reduceCtorEq] at hg; done) | ((try simp only [Bool.not_eq_true', Bool.not_eq_false', decide_eq_true_eq, decide_eq_false_iff_not] at hg); try (exfalso; omega)))
 | ((with_reducible show _ ∧ _); refine And.intro (fun hg => ?_) (fun hg => ?_) <;> (try simp only [Bool.not_eq_true', Bool.not_eq_false'] at hg) <;> simp only [hg] <;> (try simp only [decide_eq_true_eq, decide_eq_false_iff_not] at hg) <;> (try (exfalso; omega)))
 | ((with_reducible apply FunH_intro); (first | exact hix))
 | (clear hK K)
      | fail)
    refine AW_loopV [5, 6, 7, 16, 17, 18, 19, 20, 21, 22, 23, 24, 25, 26, 27, 28, 29, 30, 31, 32, 33, 34, 35] (fun i : Nat => [(5, .int .i64 ((keepF p (xs.take i)).length : Nat)), (6, .int .i64 (i : Nat))]) (fun i => H.set id ⟨ver, false, el, 1, dlC p xs i⟩) (fun i => k + 1 ≤ i ∧ i ≤ xs.length) (fun i => xs.length - i) (k + 1) ⟨Nat.le_refl _, hkl⟩ ?_ ?_ ?_
    · simp only [junkAll, setAll, List.foldl_cons, List.foldl_nil, List.set_cons_succ, List.set_cons_zero, JL, true_or, or_true, and_true, true_and, reduceCtorEq, false_or, or_false, LV.int.injEq, LV.bool.injEq, LV.flt.injEq, LV.sl.injEq, LV.ptr.injEq, eq_self, Int.natCast_add, Int.natCast_one, Int.natCast_zero, Int.ofNat_zero]; rw [hk1]
    · rw [hC, hH]
    intro i ⟨hi1, hi2⟩ K hK
    have hm := keepF_le p xs i
    have hml : (dlC p xs i).length = xs.length := dlC_len p xs i hi2
    obtain ⟨m, hme⟩ : ∃ m, (keepF p (xs.take i)).length = m := ⟨_, rfl⟩
    simp only [junkAll, setAll, List.foldl_cons, List.foldl_nil, List.set_cons_succ, List.set_cons_zero]
    rw [hme] at hm ⊢
    by_cases hil : i < xs.length
    · have hgt := dlC_get p hil
      have hks := keepF_succ p hil
      have hfi := hf (ix xs i) (ix_mem xs i hil) (dlC p xs i)
      cases hp : p (ix xs i)
      · have hs := dlC_set p hil hp
        rw [hme] at hs
        rw [hp] at hfi
        have hkl2 : (keepF p (xs.take (i + 1))).length = m + 1 := by rw [hks, hp, List.length_append, hme]; rfl
        repeat' (first
 | ((with_reducible refine hK _ _ ?_); clear hK K)
 | ((first | (with_reducible show AOp _ _ _ _ _ _ _)); simp (disch := first | ((with_reducible show liveO _ _ _ = true); first | assumption | (exact liveO_setS (by assumption)) | (exact PtL.live (by assumption)) | (exact PtL.liveA (by assumption) _) | (simp only [go_sem]; done)) | omega | assumption | rfl | (simp only [go_sem]; first | done | omega)) only [go_sem, reduceIte, reduceCtorEq, Nat.reduceAdd, Nat.reduceMul, Nat.reduceSub, Nat.reduceLeDiff, Nat.lt_irrefl, Nat.reduceLT, Nat.reduceEqDiff, Nat.reduceBEq, Int.reduceLE, Int.reduceLT, Int.reduceToNat, w64, eq_self, hgt, hs])
 | (with_reducible refine AW_seq (fun K hK => ?_))
 | (with_reducible refine AW_region tyOk ?_)
 | (with_reducible refine AOps_cons (fun K hK => ?_))
 | ((with_reducible refine AOps_nil ?_); try simp only [thenA, blockA, if_true, if_false, reduceIte, Nat.reduceEqDiff, reduceCtorEq])
 | (with_reducible refine AW_block ?_)
 | ((first | (with_reducible refine AW_ret ?_) | (with_reducible refine AW_skip ?_) | (with_reducible refine AW_exit ?_)); try simp only [thenA, blockA, if_true, if_false, reduceIte, Nat.reduceEqDiff, reduceCtorEq])
 | ((with_reducible show AW _ _ (.cond _ _ _) _ _ _); refine AW_cond rfl (fun hg => ?_) (fun hg => ?_) <;> first | (exfalso; simp only [reduceCtorEq] at hg; done) | ((try simp only [Bool.not_eq_true', Bool.not_eq_false', decide_eq_true_eq, decide_eq_false_iff_not] at hg); try (exfalso; omega)))
 | ((with_reducible show _ ∧ _); refine And.intro (fun hg => ?_) (fun hg => ?_) <;> (try simp only [Bool.not_eq_true', Bool.not_eq_false'] at hg) <;> simp only [hg] <;> (try simp only [decide_eq_true_eq, decide_eq_false_iff_not] at hg) <;> (try (exfalso; omega)))
 | ((with_reducible apply FunH_intro); (first | exact hfi))
 | (clear hK K)
          | fail)
        refine hK _ _ (i + 1) ⟨by omega, by omega⟩ (by omega) ?_ rfl
        simp only [junkAll, setAll, List.foldl_cons, List.foldl_nil, List.set_cons_succ, List.set_cons_zero, JL, true_or, or_true, and_true, true_and, reduceCtorEq, false_or, or_false, LV.int.injEq, LV.bool.injEq, LV.flt.injEq, LV.sl.injEq, LV.ptr.injEq, eq_self, Int.natCast_add, Int.natCast_one, Int.natCast_zero, Int.ofNat_zero]; rw [hkl2]; try (constructor <;> rfl)
      · have hs := dlC_same p hil hp
        rw [hp] at hfi
        have hkl2 : (keepF p (xs.take (i + 1))).length = m := by rw [hks, hp, List.length_append, hme]; rfl
        repeat' (first
 | ((with_reducible refine hK _ _ ?_); clear hK K)
 | ((first | (with_reducible show AOp _ _ _ _ _ _ _)); simp (disch := first | ((with_reducible show liveO _ _ _ = true); first | assumption | (exact liveO_setS (by assumption)) | (exact PtL.live (by assumption)) | (exact PtL.liveA (by assumption) _) | (simp only [go_sem]; done)) | omega | assumption | rfl | (simp only [go_sem]; first | done | omega)) only [go_sem, reduceIte, reduceCtorEq, Nat.reduceAdd, Nat.reduceMul, Nat.reduceSub, Nat.reduceLeDiff, Nat.lt_irrefl, Nat.reduceLT, Nat.reduceEqDiff, Nat.reduceBEq, Int.reduceLE, Int.reduceLT, Int.reduceToNat, w64, eq_self, hgt])
 | (with_reducible refine AW_seq (fun K hK => ?_))
 | (with_reducible refine AW_region tyOk ?_)
 | (with_reducible refine AOps_cons (fun K hK => ?_))
 | ((with_reducible refine AOps_nil ?_); try simp only [thenA, blockA, if_true, if_false, reduceIte, Nat.reduceEqDiff, reduceCtorEq])
 | (with_reducible refine AW_block ?_)
 | ((first | (with_reducible refine AW_ret ?_) | (with_reducible refine AW_skip ?_) | (with_reducible refine AW_exit ?_)); try simp only [thenA, blockA, if_true, if_false, reduceIte, Nat.reduceEqDiff, reduceCtorEq])
 | ((with_reducible show AW _ _ (.cond _ _ _) _ _ _); refine AW_cond rfl (fun hg => ?_) (fun hg => ?_) <;> first | (exfalso; simp only [reduceCtorEq] at hg; done) | ((try simp only [Bool.not_eq_true', Bool.not_eq_false', decide_eq_true_eq, decide_eq_false_iff_not] at hg); try (exfalso; omega)))
 | ((with_reducible show _ ∧ _); refine And.intro (fun hg => ?_) (fun hg => ?_) <;> (try simp only [Bool.not_eq_true', Bool.not_eq_false'] at hg) <;> simp only [hg] <;> (try simp only [decide_eq_true_eq, decide_eq_false_iff_not] at hg) <;> (try (exfalso; omega)))
 | ((with_reducible apply FunH_intro); (first | exact hfi))
 | (clear hK K)
          | fail)
        refine hK _ _ (i + 1) ⟨by omega, by omega⟩ (by omega) ?_ (by rw [hs])
        simp only [junkAll, setAll, List.foldl_cons, List.foldl_nil, List.set_cons_succ, List.set_cons_zero, JL, true_or, or_true, and_true, true_and, reduceCtorEq, false_or, or_false, LV.int.injEq, LV.bool.injEq, LV.flt.injEq, LV.sl.injEq, LV.ptr.injEq, eq_self, Int.natCast_add, Int.natCast_one, Int.natCast_zero, Int.ofNat_zero]; rw [hkl2]; try (constructor <;> rfl)
    · have hie : i = xs.length := by omega
      have oS : (H.set id (⟨ver, false, el, 1, dlC p xs i⟩ : AO))[id]? = some ⟨ver, false, el, 1, dlC p xs i⟩ := List.getElem?_set_self hid
      have lvS : liveO (H.set id (⟨ver, false, el, 1, dlC p xs i⟩ : AO)) id ver = true := by simp [liveO, oS]
      have szS : szO (H.set id (⟨ver, false, el, 1, dlC p xs i⟩ : AO)) id = 1 := by simp [szO, oS]
      have sl1 : ∀ te : TE, te.sz = 1 → asliceS te (H.set id ⟨ver, false, el, 1, dlC p xs i⟩) (.sl id ver 0 xs.length none) (some (.int .i64 (m : Nat))) none none = some (.sl id ver m (xs.length - m) none) := fun te hs => by
        rw [asliceS_lo lvS (by rw [szS, hs]) (by omega) (by omega), hs, Int.toNat_natCast, Nat.zero_add, Nat.mul_one]
      have hml2 : m ≤ xs.length := by omega
      have hkx : (keepF p xs).length = m := by rw [← hme, hie, List.take_length]
      have hzs : sets (dlC p xs i) m (List.replicate (xs.length - m) (.int .i64 0)) = (keepF p xs).map (LV.int .i64) ++ List.replicate (xs.length - m) (.int .i64 0) := by
        rw [hie]
        unfold dlC
        rw [List.take_length, hkx]
        have : ∀ (A B : List LV) (k : Nat) (c : Nat), A.length = k → B.length = c → sets (A ++ B) k (List.replicate c (.int .i64 0)) = A ++ List.replicate c (.int .i64 0) := by
          intro A B k c
          induction c generalizing A B k with
          | zero => intro h1 h2; rw [List.eq_nil_of_length_eq_zero h2]; rfl
          | succ c ih =>
            intro h1 h2
            cases B with
            | nil => cases h2
            | cons b B =>
              rw [List.replicate_succ]
              show sets ((A ++ b :: B).set k _) (k + 1) _ = _
              rw [List.set_append_right _ _ (by omega), h1, Nat.sub_self, List.set_cons_zero]
              have := ih (A ++ [.int .i64 0]) B (k + 1) (by rw [List.length_append, h1]; rfl) (by simpa using h2)
              rw [List.append_assoc] at this
              rw [show A ++ LV.int .i64 0 :: B = A ++ ([LV.int .i64 0] ++ B) from rfl, this, List.append_assoc]; rfl
        exact this _ _ _ _ (by rw [List.length_map]; exact hkx) (by rw [List.length_map, List.length_drop])
      have hcl3 : aclear Ty (H.set id ⟨ver, false, el, 1, dlC p xs i⟩) 24 (.sl id ver m (xs.length - m) none) = some (.tup [], H.set id ⟨ver, false, el, 1, (keepF p xs).map (LV.int .i64) ++ List.replicate (xs.length - m) (.int .i64 0)⟩) := by
        rw [← hzs]
        unfold aclear
        simp only [go_sem]
        rw [hput_setS hid (by rw [List.length_replicate, hml]; omega)]; rfl
      have oT : (H.set id (⟨ver, false, el, 1, (keepF p xs).map (LV.int .i64) ++ List.replicate (xs.length - m) (.int .i64 0)⟩ : AO))[id]? = some ⟨ver, false, el, 1, (keepF p xs).map (LV.int .i64) ++ List.replicate (xs.length - m) (.int .i64 0)⟩ := List.getElem?_set_self hid
      have lvT : liveO (H.set id (⟨ver, false, el, 1, (keepF p xs).map (LV.int .i64) ++ List.replicate (xs.length - m) (.int .i64 0)⟩ : AO)) id ver = true := by simp [liveO, oT]
      have szT : szO (H.set id (⟨ver, false, el, 1, (keepF p xs).map (LV.int .i64) ++ List.replicate (xs.length - m) (.int .i64 0)⟩ : AO)) id = 1 := by simp [szO, oT]
      have sl2 : ∀ te : TE, te.sz = 1 → asliceS te (H.set id ⟨ver, false, el, 1, (keepF p xs).map (LV.int .i64) ++ List.replicate (xs.length - m) (.int .i64 0)⟩) (.sl id ver 0 xs.length none) none (some (.int .i64 (m : Nat))) none = some (.sl id ver 0 m none) := fun te hs => by
        rw [asliceS_hi lvT (by rw [szT, hs]) (by omega) (by omega), Int.toNat_natCast]
      repeat' (first
 | ((with_reducible refine hK _ _ ?_); clear hK K)
 | ((first | (with_reducible show AOp _ _ _ _ _ _ _)); simp (disch := first | ((with_reducible show liveO _ _ _ = true); first | assumption | (exact liveO_setS (by assumption)) | (exact PtL.live (by assumption)) | (exact PtL.liveA (by assumption) _) | (simp only [go_sem]; done)) | omega | assumption | rfl | (simp only [go_sem]; first | done | omega)) only [go_sem, reduceIte, reduceCtorEq, Nat.reduceAdd, Nat.reduceMul, Nat.reduceSub, Nat.reduceLeDiff, Nat.lt_irrefl, Nat.reduceLT, Nat.reduceEqDiff, Nat.reduceBEq, Int.reduceLE, Int.reduceLT, Int.reduceToNat, w64, eq_self, sl1, hcl3, sl2])
 | (with_reducible refine AW_seq (fun K hK => ?_))
 | (with_reducible refine AW_region tyOk ?_)
 | (with_reducible refine AOps_cons (fun K hK => ?_))
 | ((with_reducible refine AOps_nil ?_); try simp only [thenA, blockA, if_true, if_false, reduceIte, Nat.reduceEqDiff, reduceCtorEq])
 | (with_reducible refine AW_block ?_)
 | ((first | (with_reducible refine AW_ret ?_) | (with_reducible refine AW_skip ?_) | (with_reducible refine AW_exit ?_)); try simp only [thenA, blockA, if_true, if_false, reduceIte, Nat.reduceEqDiff, reduceCtorEq])
 | ((with_reducible show AW _ _ (.cond _ _ _) _ _ _); refine AW_cond rfl (fun hg => ?_) (fun hg => ?_) <;> first | (exfalso; simp only [reduceCtorEq] at hg; done) | ((try simp only [Bool.not_eq_true', Bool.not_eq_false', decide_eq_true_eq, decide_eq_false_iff_not] at hg); try (exfalso; omega)))
 | ((with_reducible show _ ∧ _); refine And.intro (fun hg => ?_) (fun hg => ?_) <;> (try simp only [Bool.not_eq_true', Bool.not_eq_false'] at hg) <;> simp only [hg] <;> (try simp only [decide_eq_true_eq, decide_eq_false_iff_not] at hg) <;> (try (exfalso; omega)))
 | (clear hK K)
        | fail)
      refine EndA_trim oT (by first | exact Or.inr rfl | exact Or.inl rfl) (by simp only [Try.results28, resA, aresL, go_sem] <;> rfl) ?_
      exact ⟨by rw [hkx], by rw [List.set_set]⟩
end Go.Proofs.Ythcbbnigpkkkiaa
