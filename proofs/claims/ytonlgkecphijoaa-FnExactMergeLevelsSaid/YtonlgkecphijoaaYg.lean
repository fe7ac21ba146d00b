/- Lists of lists in the laws: where they lie, marked, held. -/
import Derived.Test.YtonlgkecphijoaaCl
import Derived.Test.YtonlgkecphijoaaHl
namespace Go.Proofs.Ytonlgkecphijoaa
open Go.RowKit
set_option linter.unusedSimpArgs false
set_option linter.unusedVariables false
set_option maxRecDepth 100000

def cQ (q : Nat × List LV) : LV := .sl q.1 0 0 q.2.length none
def oQ (q : Nat × List LV) : AO := ⟨0, false, 25, 1, q.2⟩
def totQ (Q : List (Nat × List LV)) : Nat := (Q.map fun q => q.2.length).sum
def mkQ (k : Nat) : List (Nat × List LV) → List (Nat × List LV)
  | [] => []
  | q :: Q => (q.1, (List.range q.2.length).map (mkFloat32 k)) :: mkQ (k + q.2.length) Q
theorem mkQ_len (k : Nat) (Q : List (Nat × List LV)) : (mkQ k Q).length = Q.length := by
  induction Q generalizing k with
  | nil => rfl
  | cons q Q ih => show (mkQ _ Q).length + 1 = _; rw [ih]; rfl
theorem mkQ_tot (k : Nat) (Q : List (Nat × List LV)) : totQ (mkQ k Q) = totQ Q := by
  unfold totQ
  induction Q generalizing k with
  | nil => rfl
  | cons q Q ih =>
    show ((List.range q.2.length).map (mkFloat32 k)).length + ((mkQ (k + q.2.length) Q).map fun q => q.2.length).sum = q.2.length + (Q.map fun q => q.2.length).sum
    rw [ih, List.length_map, List.length_range]
def preQ (Q : List (Nat × List LV)) (j : Nat) : Nat := totQ (Q.take j)
theorem preQ_succ {Q : List (Nat × List LV)} {j : Nat} (h : j < Q.length) : preQ Q (j + 1) = preQ Q j + (ix Q j).2.length := by
  unfold preQ totQ; rw [take_ix _ _ h]; simp
theorem preQ_le (Q : List (Nat × List LV)) (j : Nat) : preQ Q j ≤ totQ Q := by
  unfold preQ totQ
  conv => rhs; rw [← List.take_append_drop j Q]
  rw [List.map_append, List.sum_append]; omega
theorem mkQ_ix (k : Nat) (Q : List (Nat × List LV)) {j : Nat} (h : j < Q.length) : ix (mkQ k Q) j = ((ix Q j).1, (List.range (ix Q j).2.length).map (mkFloat32 (k + preQ Q j))) := by
  induction Q generalizing k j with
  | nil => exact absurd h (Nat.not_lt_zero _)
  | cons q Q ih =>
    cases j with
    | zero => rfl
    | succ j =>
      have h2 : j < Q.length := by simpa using h
      have e := ih (k := k + q.2.length) h2
      have e1 : ix (mkQ k (q :: Q)) (j + 1) = ix (mkQ (k + q.2.length) Q) j := rfl
      have e2 : ix (q :: Q) (j + 1) = ix Q j := rfl
      have e3 : preQ (q :: Q) (j + 1) = q.2.length + preQ Q j := by unfold preQ totQ; rw [List.take_succ_cons, List.map_cons, List.sum_cons]
      rw [e1, e, e2, e3, Nat.add_assoc]
theorem ix_setQ {α : Type} [Inhabited α] {xs : List α} {k j : Nat} {x : α} (hj : j < xs.length) : ix (xs.set k x) j = if k = j then x else ix xs j := by
  have h : j < (xs.set k x).length := by rw [List.length_set]; exact hj
  rw [ix_eq _ _ h, List.getElem_set, ix_eq _ _ hj]
theorem set_ixQ {α : Type} [Inhabited α] {xs : List α} {k : Nat} (h : k < xs.length) {x : α} (e : ix xs k = x) : xs.set k x = xs := by
  rw [← e, ix_eq _ _ h, List.set_getElem_self]
theorem ix_mapQ {α β : Type} [Inhabited α] [Inhabited β] (f : α → β) {xs : List α} {k : Nat} (h : k < xs.length) : ix (xs.map f) k = f (ix xs k) := by
  have h2 : k < (xs.map f).length := by rw [List.length_map]; exact h
  rw [ix_eq _ _ h2, ix_eq _ _ h, List.getElem_map]
structure Lv (X : Hp) (lo hi A : Nat) (Q : List (Nat × List LV)) : Prop where
  out : X[A]? = some ⟨0, false, 41, 1, Q.map cQ⟩
  inA : lo ≤ A ∧ A < hi
  row : ∀ k, k < Q.length → X[(ix Q k).1]? = some (oQ (ix Q k)) ∧ (lo ≤ (ix Q k).1 ∧ (ix Q k).1 < hi) ∧ (ix Q k).1 ≠ A
  nd : ∀ i k, i < Q.length → k < Q.length → i ≠ k → (ix Q i).1 ≠ (ix Q k).1
section
variable {X Y : Hp} {lo hi A : Nat} {Q : List (Nat × List LV)}
theorem Lv.frame (h : Lv X lo hi A Q) (hf : ∀ i, lo ≤ i → i < hi → Y[i]? = X[i]?) : Lv Y lo hi A Q :=
  ⟨by rw [hf _ h.inA.1 h.inA.2]; exact h.out, h.inA, fun k hk => by
    obtain ⟨r1, r2, r3⟩ := h.row k hk
    exact ⟨by rw [hf _ r2.1 r2.2]; exact r1, r2, r3⟩, h.nd⟩
theorem Lv.app (h : Lv X lo hi A Q) (hh : hi ≤ X.length) (K : Hp) : Lv (X ++ K) lo hi A Q := h.frame fun i _ h2 => List.getElem?_append_left (by omega)
theorem Lv.rd (h : Lv X lo hi A Q) : RdL X (.sl A 0 0 Q.length none) (Q.map cQ) := RdL_id h.out (List.length_map ..)
theorem Lv.at (h : Lv X lo hi A Q) {k : Nat} (hk : k < Q.length) : RdL X (cQ (ix Q k)) (ix Q k).2 := RdL_id (h.row k hk).1 rfl
theorem Lv.rdl (h : Lv X lo hi A Q) {xss : List (List (Option Nat))} (e : Q.map Prod.snd = xss.map fun xs => xs.map (LV.flt .f32)) : RdLL X (Q.map cQ) xss := by
  have hl : Q.length = xss.length := by have := congrArg List.length e; simpa using this
  refine All2.of_get (by rw [List.length_map]; exact hl) fun i a b ha hb => ?_
  have hi : i < xss.length := lt_of_getF hb
  have h1 := h.at (k := i) (by omega)
  rw [List.getElem?_map, ix_get? _ _ (by omega)] at ha
  rw [ix_get? _ _ hi] at hb
  cases ha; cases hb
  have h2 : (Q.map Prod.snd)[i]? = (xss.map fun xs => xs.map (LV.flt .f32))[i]? := by rw [e]
  rw [List.getElem?_map, List.getElem?_map, ix_get? _ _ (by omega), ix_get? _ _ hi] at h2
  have h3 : (ix Q i).2 = (ix xss i).map (LV.flt .f32) := Option.some.inj h2
  rw [h3] at h1; exact h1
theorem Lv.setk (h : Lv X lo hi A Q) {k : Nat} (hk : k < Q.length) (cs : List LV) (hc : cs.length = (ix Q k).2.length) : Lv (X.set (ix Q k).1 ⟨0, false, 25, 1, cs⟩) lo hi A (Q.set k ((ix Q k).1, cs)) := by
  obtain ⟨r1, r2, r3⟩ := h.row k hk
  have hm : (Q.set k ((ix Q k).1, cs)).map cQ = Q.map cQ := by
    rw [List.map_set]
    refine set_ixQ (by rw [List.length_map]; exact hk) ?_
    rw [ix_mapQ _ hk]; unfold cQ; rw [hc]
  refine ⟨by rw [hm, List.getElem?_set_ne r3]; exact h.out, h.inA, fun j hj => ?_, fun i j hi hj hij => ?_⟩
  · rw [List.length_set] at hj
    obtain ⟨s1, s2, s3⟩ := h.row j hj
    by_cases e : k = j
    · subst e
      rw [ix_setQ hj, if_pos rfl]
      exact ⟨List.getElem?_set_self (lt_of_getF r1), r2, r3⟩
    · rw [ix_setQ hj, if_neg e]
      exact ⟨by rw [List.getElem?_set_ne (h.nd k j hk hj e)]; exact s1, s2, s3⟩
  · rw [List.length_set] at hi hj
    have e1 : ∀ m, m < Q.length → (ix (Q.set k ((ix Q k).1, cs)) m).1 = (ix Q m).1 := fun m hm => by
      rw [ix_setQ hm]
      split
      · rename_i e; rw [e]
      · rfl
    rw [e1 i hi, e1 j hj]; exact h.nd i j hi hj hij
theorem Lv.lv (h : Lv X lo hi A Q) : liveO X A 0 = true := by simp [liveO, h.out]
theorem Lv.lvA (h : Lv X lo hi A Q) (hh : hi ≤ X.length) (L : Hp) : liveO (X ++ L) A 0 = true := (h.app hh L).lv
theorem Lv.g (h : Lv X lo hi A Q) (j : Nat) : hget X A 0 j = (Q.map cQ)[j]? := by simp [hget, h.out]
end
/-- Half marked. -/
def hmQ (k : Nat) (Q : List (Nat × List LV)) (j : Nat) : List (Nat × List LV) := (mkQ k Q).take j ++ Q.drop j
theorem hmQ_len (k : Nat) (Q : List (Nat × List LV)) {j : Nat} (h : j ≤ Q.length) : (hmQ k Q j).length = Q.length := by
  unfold hmQ; rw [List.length_append, List.length_take, List.length_drop, mkQ_len]; omega
theorem hmQ_at (k : Nat) (Q : List (Nat × List LV)) {j : Nat} (h : j < Q.length) : ix (hmQ k Q j) j = ix Q j := by
  rw [ix_eq _ _ (by rw [hmQ_len _ _ (by omega)]; exact h), ix_eq _ _ h]
  unfold hmQ
  rw [List.getElem_append_right (by rw [List.length_take, mkQ_len]; omega)]
  simp only [List.length_take, mkQ_len, List.getElem_drop]
  congr 1; omega
theorem hmQ_step (k : Nat) (Q : List (Nat × List LV)) {j : Nat} (h : j < Q.length) : (hmQ k Q j).set j (ix (mkQ k Q) j) = hmQ k Q (j + 1) := by
  unfold hmQ
  rw [List.set_append_right _ _ (by rw [List.length_take, mkQ_len]; omega), List.length_take, mkQ_len, show j - min j Q.length = 0 by omega, List.drop_eq_getElem_cons h, List.set_cons_zero, take_ix _ _ (by rw [mkQ_len]; exact h), List.append_assoc]
  rfl
theorem hmQ_0 (k : Nat) (Q : List (Nat × List LV)) : hmQ k Q 0 = Q := rfl
theorem hmQ_all (k : Nat) (Q : List (Nat × List LV)) : hmQ k Q Q.length = mkQ k Q := by
  unfold hmQ; rw [List.drop_length, List.append_nil, ← mkQ_len k, List.take_length]
def mkH (X : Hp) (k : Nat) (Q : List (Nat × List LV)) : Nat → Hp
  | 0 => X
  | j + 1 => (mkH X k Q j).set (ix Q j).1 ⟨0, false, 25, 1, (ix (mkQ k Q) j).2⟩
theorem mkH_len (X : Hp) (k : Nat) (Q : List (Nat × List LV)) : ∀ j, (mkH X k Q j).length = X.length
  | 0 => rfl
  | j + 1 => by rw [mkH, List.length_set, mkH_len X k Q j]
theorem mkH_out {X : Hp} {lo hi A : Nat} {Q : List (Nat × List LV)} (h : Lv X lo hi A Q) (k : Nat) {i : Nat} (hi : ¬ (lo ≤ i ∧ i < hi)) : ∀ j, j ≤ Q.length → (mkH X k Q j)[i]? = X[i]?
  | 0, _ => rfl
  | j + 1, hj => by
    have := (h.row j (by omega)).2.1
    rw [mkH, List.getElem?_set_ne (by omega), mkH_out h k hi j (by omega)]
theorem mkH_Lv {X : Hp} {lo hi A : Nat} {Q : List (Nat × List LV)} (h : Lv X lo hi A Q) (k : Nat) : ∀ j, j ≤ Q.length → Lv (mkH X k Q j) lo hi A (hmQ k Q j)
  | 0, _ => h
  | j + 1, hj => by
    have h1 := mkH_Lv h k j (by omega)
    have e := mkQ_ix k Q (j := j) (by omega)
    have h2 := h1.setk (k := j) (by rw [hmQ_len _ _ (by omega)]; omega) (ix (mkQ k Q) j).2 (by rw [hmQ_at _ _ (by omega), e, List.length_map, List.length_range])
    rw [hmQ_at _ _ (show j < Q.length by omega)] at h2
    rw [mkH, ← hmQ_step k Q (show j < Q.length by omega)]
    have e2 : ((ix Q j).1, (ix (mkQ k Q) j).2) = ix (mkQ k Q) j := by rw [e]
    rw [e2] at h2; exact h2
set_option maxHeartbeats 2000000 in
theorem markFloat32SS_c {X : Hp} {lo hi A : Nat} {Q : List (Nat × List LV)} (hA : Lv X lo hi A Q) (k : Nat) (n : Nat) (hn : Q.length = n) (hb : n ≤ 1048576) (hk : k + totQ Q ≤ 17592186044416) :
    FunH Try.prog 25 [.sl A 0 0 n none, .int .i64 (k : Nat)] X fun r H' => r = .int .i64 (k + totQ Q : Nat) ∧ H' = mkH X k Q Q.length := by
  subst hn
  (refine FunH_body tyOk Try.func25 rfl (by kernel_rfl) Try.ntmps25 (fun hcl hbd => ?_); simp only [List.length_cons, List.length_nil, Nat.reduceAdd, Nat.reduceSub, List.replicate, List.cons_append, List.nil_append])
  repeat' (first
 | ((with_reducible refine hK _ _ ?_); clear hK K)
 | ((first | (with_reducible show AOp _ _ _ _ _ _ _)); simp (disch := first | ((with_reducible show liveO _ _ _ = true); first | assumption | (exact hA.lv) | (exact hA.lvA _) | (exact liveO_setS (by assumption)) | (exact PtL.live (by assumption)) | (exact PtL.liveA (by assumption) _) | (simp only [go_sem]; done)) | omega | assumption | rfl | (simp only [go_sem]; first | done | omega)) only [go_sem, reduceIte, reduceCtorEq, Nat.reduceAdd, Nat.reduceMul, Nat.reduceSub, Nat.reduceLeDiff, Nat.lt_irrefl, Nat.reduceLT, Nat.reduceEqDiff, Nat.reduceBEq, Int.reduceLE, Int.reduceLT, Int.reduceToNat, w64, eq_self])
 | (with_reducible refine AW_seq (fun K hK => ?_))
 | (with_reducible refine AW_region tyOk ?_)
 | (with_reducible refine AOps_cons (fun K hK => ?_))
 | ((with_reducible refine AOps_nil ?_); try simp only [thenA, blockA, if_true, if_false, reduceIte, Nat.reduceEqDiff, reduceCtorEq])
 | (with_reducible refine AW_block ?_)
 | ((first | (with_reducible refine AW_ret ?_) | (with_reducible refine AW_skip ?_) | (with_reducible refine AW_exit ?_)); try simp only [thenA, blockA, if_true, if_false, reduceIte, Nat.reduceEqDiff, reduceCtorEq])
 | ((with_reducible show AW _ _ (.cond _ _ _) _ _ _); refine AW_cond rfl (fun hg => ?_) (fun hg => ?_) <;> first | (exfalso; simp only [reduceCtorEq] at hg; done) | ((try simp only [Bool.not_eq_true', Bool.not_eq_false', decide_eq_true_eq, decide_eq_false_iff_not] at hg); try (exfalso; omega)))
 | ((with_reducible show _ ∧ _); refine And.intro (fun hg => ?_) (fun hg => ?_) <;> (try simp only [Bool.not_eq_true', Bool.not_eq_false'] at hg) <;> simp only [hg] <;> (try simp only [decide_eq_true_eq, decide_eq_false_iff_not] at hg) <;> (try (exfalso; omega)))
 | ((with_reducible apply FunH_intro); (first | exact markFloat32S_c _ _ _ _ _ _ _ (by first | assumption | exact (hp_getj _ _ _).trans rfl | exact (hp_get0 _ _).trans rfl) (by first | rfl | assumption | omega | (simp; done)) (by first | assumption | omega | (simp; omega) | (simp; done)) (by first | assumption | omega | (simp; omega) | (simp; done))))
 | (clear hK K)
    | fail)
  refine AW_loopV [1, 5, 6, 7, 8, 9, 10, 11, 12, 13, 14, 15, 16, 17] (fun j : Nat => [(5, .int .i64 (j : Nat)), (1, .int .i64 (k + preQ Q j : Nat))]) (fun j => mkH X k Q j) (fun j => j ≤ Q.length) (fun j => Q.length - j) 0 (Nat.zero_le _) ?_ rfl ?_
  · simp only [junkAll, setAll, List.foldl_cons, List.foldl_nil, List.set_cons_succ, List.set_cons_zero, JL, true_or, or_true, and_true, true_and, reduceCtorEq, false_or, or_false, LV.int.injEq, LV.bool.injEq, LV.flt.injEq, LV.sl.injEq, LV.ptr.injEq, eq_self, Int.natCast_add, Int.natCast_one, Int.natCast_zero, Int.ofNat_zero]; rfl
  intro j hj K hK
  have hL := mkH_Lv hA k j hj
  have hp := preQ_le Q j
  simp only [junkAll, setAll, List.foldl_cons, List.foldl_nil, List.set_cons_succ, List.set_cons_zero]
  by_cases hjl : j < Q.length
  · have hlt : j < (hmQ k Q j).length := by rw [hmQ_len _ _ hj]; exact hjl
    have hrow := (hL.row j hlt).1
    have hcell : ((hmQ k Q j).map cQ)[j]? = some (.sl (ix Q j).1 0 0 (ix Q j).2.length none) := by rw [List.getElem?_map, ix_get? _ _ hlt, hmQ_at _ _ hjl]; rfl
    rw [hmQ_at _ _ hjl] at hrow
    have hps := preQ_succ hjl
    have hp1 := preQ_le Q (j + 1)
    have hm := markFloat32S_c (ix Q j).1 0 25 (ix Q j).2.length (ix Q j).2 (k + preQ Q j) _ hrow rfl (by omega) (by omega)
    have hA := hL
    repeat' (first
 | ((with_reducible refine hK _ _ ?_); clear hK K)
 | ((first | (with_reducible show AOp _ _ _ _ _ _ _)); simp (disch := first | ((with_reducible show liveO _ _ _ = true); first | assumption | (exact hA.lv) | (exact hA.lvA _) | (exact liveO_setS (by assumption)) | (exact PtL.live (by assumption)) | (exact PtL.liveA (by assumption) _) | (simp only [go_sem]; done)) | omega | assumption | rfl | (simp only [go_sem]; first | done | omega)) only [go_sem, reduceIte, reduceCtorEq, Nat.reduceAdd, Nat.reduceMul, Nat.reduceSub, Nat.reduceLeDiff, Nat.lt_irrefl, Nat.reduceLT, Nat.reduceEqDiff, Nat.reduceBEq, Int.reduceLE, Int.reduceLT, Int.reduceToNat, w64, eq_self, hL.g, hcell])
 | (with_reducible refine AW_seq (fun K hK => ?_))
 | (with_reducible refine AW_region tyOk ?_)
 | (with_reducible refine AOps_cons (fun K hK => ?_))
 | ((with_reducible refine AOps_nil ?_); try simp only [thenA, blockA, if_true, if_false, reduceIte, Nat.reduceEqDiff, reduceCtorEq])
 | (with_reducible refine AW_block ?_)
 | ((first | (with_reducible refine AW_ret ?_) | (with_reducible refine AW_skip ?_) | (with_reducible refine AW_exit ?_)); try simp only [thenA, blockA, if_true, if_false, reduceIte, Nat.reduceEqDiff, reduceCtorEq])
 | ((with_reducible show AW _ _ (.cond _ _ _) _ _ _); refine AW_cond rfl (fun hg => ?_) (fun hg => ?_) <;> first | (exfalso; simp only [reduceCtorEq] at hg; done) | ((try simp only [Bool.not_eq_true', Bool.not_eq_false', decide_eq_true_eq, decide_eq_false_iff_not] at hg); try (exfalso; omega)))
 | ((with_reducible show _ ∧ _); refine And.intro (fun hg => ?_) (fun hg => ?_) <;> (try simp only [Bool.not_eq_true', Bool.not_eq_false'] at hg) <;> simp only [hg] <;> (try simp only [decide_eq_true_eq, decide_eq_false_iff_not] at hg) <;> (try (exfalso; omega)))
 | ((with_reducible apply FunH_intro); (first | exact hm | exact markFloat32S_c _ _ _ _ _ _ _ (by first | assumption | exact (hp_getj _ _ _).trans rfl | exact (hp_get0 _ _).trans rfl) (by first | rfl | assumption | omega | (simp; done)) (by first | assumption | omega | (simp; omega) | (simp; done)) (by first | assumption | omega | (simp; omega) | (simp; done))))
 | (clear hK K)
      | fail)
    refine hK _ _ (j + 1) (by omega) (by omega) ?_ ?_
    · simp only [junkAll, setAll, List.foldl_cons, List.foldl_nil, List.set_cons_succ, List.set_cons_zero, JL, true_or, or_true, and_true, true_and, reduceCtorEq, false_or, or_false, LV.int.injEq, LV.bool.injEq, LV.flt.injEq, LV.sl.injEq, LV.ptr.injEq, eq_self, Int.natCast_add, Int.natCast_one, Int.natCast_zero, Int.ofNat_zero]; omega
    · rw [mkH, mkQ_ix _ _ hjl]
  · repeat' (first
 | ((with_reducible refine hK _ _ ?_); clear hK K)
 | ((first | (with_reducible show AOp _ _ _ _ _ _ _)); simp (disch := first | ((with_reducible show liveO _ _ _ = true); first | assumption | (exact hA.lv) | (exact hA.lvA _) | (exact liveO_setS (by assumption)) | (exact PtL.live (by assumption)) | (exact PtL.liveA (by assumption) _) | (simp only [go_sem]; done)) | omega | assumption | rfl | (simp only [go_sem]; first | done | omega)) only [go_sem, reduceIte, reduceCtorEq, Nat.reduceAdd, Nat.reduceMul, Nat.reduceSub, Nat.reduceLeDiff, Nat.lt_irrefl, Nat.reduceLT, Nat.reduceEqDiff, Nat.reduceBEq, Int.reduceLE, Int.reduceLT, Int.reduceToNat, w64, eq_self])
 | (with_reducible refine AW_seq (fun K hK => ?_))
 | (with_reducible refine AW_region tyOk ?_)
 | (with_reducible refine AOps_cons (fun K hK => ?_))
 | ((with_reducible refine AOps_nil ?_); try simp only [thenA, blockA, if_true, if_false, reduceIte, Nat.reduceEqDiff, reduceCtorEq])
 | (with_reducible refine AW_block ?_)
 | ((first | (with_reducible refine AW_ret ?_) | (with_reducible refine AW_skip ?_) | (with_reducible refine AW_exit ?_)); try simp only [thenA, blockA, if_true, if_false, reduceIte, Nat.reduceEqDiff, reduceCtorEq])
 | ((with_reducible show AW _ _ (.cond _ _ _) _ _ _); refine AW_cond rfl (fun hg => ?_) (fun hg => ?_) <;> first | (exfalso; simp only [reduceCtorEq] at hg; done) | ((try simp only [Bool.not_eq_true', Bool.not_eq_false', decide_eq_true_eq, decide_eq_false_iff_not] at hg); try (exfalso; omega)))
 | ((with_reducible show _ ∧ _); refine And.intro (fun hg => ?_) (fun hg => ?_) <;> (try simp only [Bool.not_eq_true', Bool.not_eq_false'] at hg) <;> simp only [hg] <;> (try simp only [decide_eq_true_eq, decide_eq_false_iff_not] at hg) <;> (try (exfalso; omega)))
 | ((with_reducible apply FunH_intro); (first | exact markFloat32S_c _ _ _ _ _ _ _ (by first | assumption | exact (hp_getj _ _ _).trans rfl | exact (hp_get0 _ _).trans rfl) (by first | rfl | assumption | omega | (simp; done)) (by first | assumption | omega | (simp; omega) | (simp; done)) (by first | assumption | omega | (simp; omega) | (simp; done))))
 | (clear hK K)
      | fail)
    all_goals (first | refine EndA_cut hcl (by first | exact Or.inr rfl | exact Or.inl rfl) (by simp only [Try.results25, resA, aresL, go_sem, reduceIte, reduceCtorEq, Nat.reduceAdd, Nat.reduceMul, Nat.reduceSub, Nat.reduceLeDiff, Nat.lt_irrefl, Nat.reduceLT, Nat.reduceEqDiff, Nat.reduceBEq, Int.reduceLE, Int.reduceLT, Int.reduceToNat, w64, eq_self] <;> rfl) rfl ?_ | refine EndA_same (by first | exact Or.inr rfl | exact Or.inl rfl) (by simp only [Try.results25, resA, aresL, go_sem, reduceIte, reduceCtorEq, Nat.reduceAdd, Nat.reduceMul, Nat.reduceSub, Nat.reduceLeDiff, Nat.lt_irrefl, Nat.reduceLT, Nat.reduceEqDiff, Nat.reduceBEq, Int.reduceLE, Int.reduceLT, Int.reduceToNat, w64, eq_self] <;> rfl) ?_)
    have e : j = Q.length := by omega
    subst e
    exact ⟨by unfold preQ; rw [List.take_length], rfl⟩
set_option maxHeartbeats 2000000 in
theorem heldFloat32SS_c {X : Hp} {lo hi A : Nat} {Q : List (Nat × List LV)} (k : Nat) (n : Nat) (hA : Lv X lo hi A (mkQ k Q)) (hn : Q.length = n) (hb : n ≤ 1048576) (hk : k + totQ Q ≤ 17592186044416) :
    FunH Try.prog 26 [.sl A 0 0 n none, .int .i64 (k : Nat)] X fun r H' => r = .int .i64 (k + totQ Q : Nat) ∧ H' = X := by
  subst hn
  have hl := mkQ_len k Q
  (refine FunH_body tyOk Try.func26 rfl (by kernel_rfl) Try.ntmps26 (fun hcl hbd => ?_); simp only [List.length_cons, List.length_nil, Nat.reduceAdd, Nat.reduceSub, List.replicate, List.cons_append, List.nil_append])
  repeat' (first
 | ((with_reducible refine hK _ _ ?_); clear hK K)
 | ((first | (with_reducible show AOp _ _ _ _ _ _ _)); simp (disch := first | ((with_reducible show liveO _ _ _ = true); first | assumption | (exact hA.lv) | (exact hA.lvA _) | (exact liveO_setS (by assumption)) | (exact PtL.live (by assumption)) | (exact PtL.liveA (by assumption) _) | (simp only [go_sem]; done)) | omega | assumption | rfl | (simp only [go_sem]; first | done | omega)) only [go_sem, reduceIte, reduceCtorEq, Nat.reduceAdd, Nat.reduceMul, Nat.reduceSub, Nat.reduceLeDiff, Nat.lt_irrefl, Nat.reduceLT, Nat.reduceEqDiff, Nat.reduceBEq, Int.reduceLE, Int.reduceLT, Int.reduceToNat, w64, eq_self])
 | (with_reducible refine AW_seq (fun K hK => ?_))
 | (with_reducible refine AW_region tyOk ?_)
 | (with_reducible refine AOps_cons (fun K hK => ?_))
 | ((with_reducible refine AOps_nil ?_); try simp only [thenA, blockA, if_true, if_false, reduceIte, Nat.reduceEqDiff, reduceCtorEq])
 | (with_reducible refine AW_block ?_)
 | ((first | (with_reducible refine AW_ret ?_) | (with_reducible refine AW_skip ?_) | (with_reducible refine AW_exit ?_)); try simp only [thenA, blockA, if_true, if_false, reduceIte, Nat.reduceEqDiff, reduceCtorEq])
 | ((with_reducible show AW _ _ (.cond _ _ _) _ _ _); refine AW_cond rfl (fun hg => ?_) (fun hg => ?_) <;> first | (exfalso; simp only [reduceCtorEq] at hg; done) | ((try simp only [Bool.not_eq_true', Bool.not_eq_false', decide_eq_true_eq, decide_eq_false_iff_not] at hg); try (exfalso; omega)))
 | ((with_reducible show _ ∧ _); refine And.intro (fun hg => ?_) (fun hg => ?_) <;> (try simp only [Bool.not_eq_true', Bool.not_eq_false'] at hg) <;> simp only [hg] <;> (try simp only [decide_eq_true_eq, decide_eq_false_iff_not] at hg) <;> (try (exfalso; omega)))
 | ((with_reducible apply FunH_intro); (first | exact heldFloat32S_c _ _ _ _ (by first | assumption | exact RdL.app (by assumption) _ | exact RdL_hj rfl (by simp) | exact RdL_h0 rfl (by simp) | exact RdL_nil | exact RdL_emp) (by first | assumption | omega | (simp; omega) | (simp; done)) (by first | assumption | omega | (simp; omega) | (simp; done))))
 | (clear hK K)
    | fail)
  refine AW_loopV [1, 4, 5, 6, 7, 8, 9, 10, 11, 12, 13, 14, 15, 16, 17, 18, 19] (fun j : Nat => [(5, .int .i64 (j : Nat)), (1, .int .i64 (k + preQ Q j : Nat))]) (fun j => X) (fun j => j ≤ Q.length) (fun j => Q.length - j) 0 (Nat.zero_le _) ?_ rfl ?_
  · simp only [junkAll, setAll, List.foldl_cons, List.foldl_nil, List.set_cons_succ, List.set_cons_zero, JL, true_or, or_true, and_true, true_and, reduceCtorEq, false_or, or_false, LV.int.injEq, LV.bool.injEq, LV.flt.injEq, LV.sl.injEq, LV.ptr.injEq, eq_self, Int.natCast_add, Int.natCast_one, Int.natCast_zero, Int.ofNat_zero]; rfl
  intro j hj K hK
  have hp := preQ_le Q j
  simp only [junkAll, setAll, List.foldl_cons, List.foldl_nil, List.set_cons_succ, List.set_cons_zero]
  by_cases hjl : j < Q.length
  · have hcell : ((mkQ k Q).map cQ)[j]? = some (.sl (ix Q j).1 0 0 (ix Q j).2.length none) := by rw [List.getElem?_map, ix_get? _ _ (by omega), mkQ_ix _ _ hjl]; unfold cQ; simp
    have hps := preQ_succ hjl
    have hp1 := preQ_le Q (j + 1)
    have hr := hA.at (k := j) (by omega)
    rw [mkQ_ix _ _ hjl] at hr
    have hm := heldFloat32S_c _ (ix Q j).2.length (k + preQ Q j) _ hr (by omega) (by omega)
    have e : cQ ((ix Q j).1, (List.range (ix Q j).2.length).map (mkFloat32 (k + preQ Q j))) = .sl (ix Q j).1 0 0 (ix Q j).2.length none := by unfold cQ; simp
    rw [e] at hm
    repeat' (first
 | ((with_reducible refine hK _ _ ?_); clear hK K)
 | ((first | (with_reducible show AOp _ _ _ _ _ _ _)); simp (disch := first | ((with_reducible show liveO _ _ _ = true); first | assumption | (exact hA.lv) | (exact hA.lvA _) | (exact liveO_setS (by assumption)) | (exact PtL.live (by assumption)) | (exact PtL.liveA (by assumption) _) | (simp only [go_sem]; done)) | omega | assumption | rfl | (simp only [go_sem]; first | done | omega)) only [go_sem, reduceIte, reduceCtorEq, Nat.reduceAdd, Nat.reduceMul, Nat.reduceSub, Nat.reduceLeDiff, Nat.lt_irrefl, Nat.reduceLT, Nat.reduceEqDiff, Nat.reduceBEq, Int.reduceLE, Int.reduceLT, Int.reduceToNat, w64, eq_self, hA.g, hcell])
 | (with_reducible refine AW_seq (fun K hK => ?_))
 | (with_reducible refine AW_region tyOk ?_)
 | (with_reducible refine AOps_cons (fun K hK => ?_))
 | ((with_reducible refine AOps_nil ?_); try simp only [thenA, blockA, if_true, if_false, reduceIte, Nat.reduceEqDiff, reduceCtorEq])
 | (with_reducible refine AW_block ?_)
 | ((first | (with_reducible refine AW_ret ?_) | (with_reducible refine AW_skip ?_) | (with_reducible refine AW_exit ?_)); try simp only [thenA, blockA, if_true, if_false, reduceIte, Nat.reduceEqDiff, reduceCtorEq])
 | ((with_reducible show AW _ _ (.cond _ _ _) _ _ _); refine AW_cond rfl (fun hg => ?_) (fun hg => ?_) <;> first | (exfalso; simp only [reduceCtorEq] at hg; done) | ((try simp only [Bool.not_eq_true', Bool.not_eq_false', decide_eq_true_eq, decide_eq_false_iff_not] at hg); try (exfalso; omega)))
 | ((with_reducible show _ ∧ _); refine And.intro (fun hg => ?_) (fun hg => ?_) <;> (try simp only [Bool.not_eq_true', Bool.not_eq_false'] at hg) <;> simp only [hg] <;> (try simp only [decide_eq_true_eq, decide_eq_false_iff_not] at hg) <;> (try (exfalso; omega)))
 | ((with_reducible apply FunH_intro); (first | exact hm | exact heldFloat32S_c _ _ _ _ (by first | assumption | exact RdL.app (by assumption) _ | exact RdL_hj rfl (by simp) | exact RdL_h0 rfl (by simp) | exact RdL_nil | exact RdL_emp) (by first | assumption | omega | (simp; omega) | (simp; done)) (by first | assumption | omega | (simp; omega) | (simp; done))))
 | (clear hK K)
      | fail)
    all_goals try (exfalso; omega)
    refine hK _ _ (j + 1) (by omega) (by omega) ?_ rfl
    simp only [junkAll, setAll, List.foldl_cons, List.foldl_nil, List.set_cons_succ, List.set_cons_zero, JL, true_or, or_true, and_true, true_and, reduceCtorEq, false_or, or_false, LV.int.injEq, LV.bool.injEq, LV.flt.injEq, LV.sl.injEq, LV.ptr.injEq, eq_self, Int.natCast_add, Int.natCast_one, Int.natCast_zero, Int.ofNat_zero]; omega
  · repeat' (first
 | ((with_reducible refine hK _ _ ?_); clear hK K)
 | ((first | (with_reducible show AOp _ _ _ _ _ _ _)); simp (disch := first | ((with_reducible show liveO _ _ _ = true); first | assumption | (exact hA.lv) | (exact hA.lvA _) | (exact liveO_setS (by assumption)) | (exact PtL.live (by assumption)) | (exact PtL.liveA (by assumption) _) | (simp only [go_sem]; done)) | omega | assumption | rfl | (simp only [go_sem]; first | done | omega)) only [go_sem, reduceIte, reduceCtorEq, Nat.reduceAdd, Nat.reduceMul, Nat.reduceSub, Nat.reduceLeDiff, Nat.lt_irrefl, Nat.reduceLT, Nat.reduceEqDiff, Nat.reduceBEq, Int.reduceLE, Int.reduceLT, Int.reduceToNat, w64, eq_self])
 | (with_reducible refine AW_seq (fun K hK => ?_))
 | (with_reducible refine AW_region tyOk ?_)
 | (with_reducible refine AOps_cons (fun K hK => ?_))
 | ((with_reducible refine AOps_nil ?_); try simp only [thenA, blockA, if_true, if_false, reduceIte, Nat.reduceEqDiff, reduceCtorEq])
 | (with_reducible refine AW_block ?_)
 | ((first | (with_reducible refine AW_ret ?_) | (with_reducible refine AW_skip ?_) | (with_reducible refine AW_exit ?_)); try simp only [thenA, blockA, if_true, if_false, reduceIte, Nat.reduceEqDiff, reduceCtorEq])
 | ((with_reducible show AW _ _ (.cond _ _ _) _ _ _); refine AW_cond rfl (fun hg => ?_) (fun hg => ?_) <;> first | (exfalso; simp only [reduceCtorEq] at hg; done) | ((try simp only [Bool.not_eq_true', Bool.not_eq_false', decide_eq_true_eq, decide_eq_false_iff_not] at hg); try (exfalso; omega)))
 | ((with_reducible show _ ∧ _); refine And.intro (fun hg => ?_) (fun hg => ?_) <;> (try simp only [Bool.not_eq_true', Bool.not_eq_false'] at hg) <;> simp only [hg] <;> (try simp only [decide_eq_true_eq, decide_eq_false_iff_not] at hg) <;> (try (exfalso; omega)))
 | ((with_reducible apply FunH_intro); (first | exact heldFloat32S_c _ _ _ _ (by first | assumption | exact RdL.app (by assumption) _ | exact RdL_hj rfl (by simp) | exact RdL_h0 rfl (by simp) | exact RdL_nil | exact RdL_emp) (by first | assumption | omega | (simp; omega) | (simp; done)) (by first | assumption | omega | (simp; omega) | (simp; done))))
 | (clear hK K)
      | fail)
    all_goals (first | refine EndA_cut hcl (by first | exact Or.inr rfl | exact Or.inl rfl) (by simp only [Try.results26, resA, aresL, go_sem, reduceIte, reduceCtorEq, Nat.reduceAdd, Nat.reduceMul, Nat.reduceSub, Nat.reduceLeDiff, Nat.lt_irrefl, Nat.reduceLT, Nat.reduceEqDiff, Nat.reduceBEq, Int.reduceLE, Int.reduceLT, Int.reduceToNat, w64, eq_self] <;> rfl) rfl ?_ | refine EndA_same (by first | exact Or.inr rfl | exact Or.inl rfl) (by simp only [Try.results26, resA, aresL, go_sem, reduceIte, reduceCtorEq, Nat.reduceAdd, Nat.reduceMul, Nat.reduceSub, Nat.reduceLeDiff, Nat.lt_irrefl, Nat.reduceLT, Nat.reduceEqDiff, Nat.reduceBEq, Int.reduceLE, Int.reduceLT, Int.reduceToNat, w64, eq_self] <;> rfl) ?_)
    have e : j = Q.length := by omega
    subst e
    exact ⟨by unfold preQ; rw [List.take_length], rfl⟩
end Go.Proofs.Ytonlgkecphijoaa
