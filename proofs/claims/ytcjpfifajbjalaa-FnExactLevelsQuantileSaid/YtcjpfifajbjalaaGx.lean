/- The number of levels at a share, in the abstract machine: the reference's side. -/
import Derived.Test.YtcjpfifajbjalaaGw
namespace Go.Proofs.Ytcjpfifajbjalaa
open Go.RowKit
set_option linter.unusedSimpArgs false
set_option linter.unusedVariables false
set_option maxRecDepth 100000

theorem srt_putAt {α : Type} {key : α → Int} (L : List α) (x : α) (at_ : Nat) (h1 : ∀ p ∈ (srt key L).take at_, key p ≤ key x) (h2 : ∀ p ∈ (srt key L).drop at_, key x < key p) :
    srt key (L ++ [x]) = (srt key L).take at_ ++ x :: (srt key L).drop at_ := by
  obtain ⟨S, hS⟩ : ∃ S, srt key L = S := ⟨_, rfl⟩
  have hA : Asc key S := by rw [← hS]; exact srt_asc L
  have hC : ∀ c, cls key c S = cls key c L := fun c => by rw [← hS]; exact srt_cls c L
  rw [hS] at h1 h2 ⊢
  have e1 : x :: S.drop at_ = [x] ++ S.drop at_ := rfl
  symm
  rw [e1]
  refine srt_eq ?_ fun c => ?_
  · refine asc_app (asc_take hA _) (asc_app (List.pairwise_singleton _ _) (asc_drop hA _) fun u hu v hv => ?_) fun u hu v hv => ?_
    · rw [List.mem_singleton] at hu; subst hu; exact Int.le_of_lt (h2 v hv)
    · rcases List.mem_append.1 hv with h | h
      · rw [List.mem_singleton] at h; subst h; exact h1 u hu
      · exact Int.le_of_lt (Int.lt_of_le_of_lt (h1 u hu) (h2 v h))
  · rw [cls_app, cls_swap c (us := [x]) (vs := S.drop at_) (fun u hu v hv => by
      rw [List.mem_singleton] at hu; subst hu; have := h2 v hv; omega), cls_app, ← List.append_assoc, ← cls_app, List.take_append_drop, cls_app, hC]
def shL (A : List LV) (m : Nat) (y : LV) : List LV := A.take m ++ y :: A.drop m
theorem shL_len (A : List LV) (m : Nat) (y : LV) : (shL A m y).length = A.length + 1 := by
  unfold shL
  have := congrArg List.length (List.take_append_drop m A)
  rw [List.length_append] at this
  rw [List.length_append, List.length_cons]; omega
theorem shL_end (A : List LV) (y : LV) {m : Nat} (h : A.length = m) : A ++ [y] = shL A m y := by
  unfold shL; subst h; rw [List.take_length, List.drop_length]
theorem shL_get (A : List LV) (m : Nat) (y : LV) (h : m + 1 ≤ A.length) : (shL A (m + 1) y)[m]? = A[m]? := by
  unfold shL; rw [List.getElem?_append_left (by rw [List.length_take]; omega), List.getElem?_take_of_lt (by omega)]
theorem shL_set (A : List LV) (m : Nat) (x y : LV) (h : m ≤ A.length) : (shL A m y).set m x = shL A m x := by
  unfold shL
  rw [List.set_append_right _ _ (by rw [List.length_take]; omega), List.length_take, Nat.min_eq_left h, Nat.sub_self]; rfl
theorem shL_down (A : List LV) (m : Nat) (y a : LV) (h : m + 1 ≤ A.length) (ha : A[m]? = some a) : (shL A (m + 1) y).set (m + 1) a = shL A m a := by
  rw [shL_set _ _ _ _ h]
  unfold shL
  have h1 : m < A.length := by omega
  rw [List.take_add_one, List.append_assoc, ha]
  have h2 : A.drop m = a :: A.drop (m + 1) := by
    rw [List.drop_eq_getElem_cons h1]
    rw [List.getElem?_eq_getElem h1] at ha
    cases ha; rfl
  rw [h2]; rfl
theorem fGt_key (a b : Nat) : fGt .f32 (some a) (some b) = decide (kW b < kW a) := by rw [fGt_eq]; exact fLt_key .f32 b a
def Vw (p : Nat × Int) : LV := .flt .f32 (some p.1)
def Nw (p : Nat × Int) : LV := .int .i64 p.2
theorem shL_map {β : Type} (f : β → LV) (D : List β) (m : Nat) (x : β) : shL (D.map f) m (f x) = (D.take m ++ x :: D.drop m).map f := by
  unfold shL; rw [List.map_append, List.map_cons, List.map_take, List.map_drop]
theorem hgetj0 {H K : Hp} {j ver el sz off : Nat} {ro : Bool} {cs : List LV} (h : K[j]? = some ⟨ver, ro, el, sz, cs⟩) : hget (H ++ K) (H.length + j) ver off = cs[off]? := by
  have e : (H ++ K)[H.length + j]? = some ⟨ver, ro, el, sz, cs⟩ := (hp_getj _ _ _).trans h
  simp [hget, e]
set_option maxHeartbeats 8000000 in
theorem sLevelsQuantile_c (r s : Int) (v : LV) (L : List LV) (xss : List (List (Option Nat))) (z : Option Nat) (H : Hp) (h : RdL H v L) (hL : RdLL H L xss) (hn : totL xss ≤ 1048576) :
    FunH Try.prog 80 [.agg [.int .i64 r, .int .i64 s, v], .flt .f32 z] H fun r' H' => r' = .tup [.flt .f32 (lqV r s xss z), .bool (lqK r s xss z)] ∧ H' = H := by
  have hlen := hL.length
  have hll := h.lenL hL
  have hmany := l05Many_c H.length 0 r s v L xss (H ++ [⟨0, false, 92, 3, [.int .i64 r, .int .i64 s, v]⟩]) (PtL_h0 rfl) (h.app _) (hL.app _) hn
  unfold lqK lqV
  cases e1 : lqB r s xss z
  · have e2 : (cntB r s xss && !(lqC xss == 0) && shareB z) = false := e1
    cases e3 : cntB r s xss
    · rw [e3] at hmany
      (refine FunH_body tyOk Try.func80 rfl (by kernel_rfl) Try.ntmps80 (fun hcl hbd => ?_); simp only [List.length_cons, List.length_nil, Nat.reduceAdd, Nat.reduceSub, List.replicate, List.cons_append, List.nil_append])
      repeat' (first
        | ((with_reducible refine hK _ _ ?_); clear hK K)
        | ((first | (with_reducible show AOp _ _ _ _ _ _ _)); simp (disch := first | ((with_reducible show liveO _ _ _ = true); first | assumption | (exact liveO_setS (by assumption)) | (exact PtL.live (by assumption)) | (exact PtL.liveA (by assumption) _) | (simp only [go_sem]; done)) | omega | assumption | rfl | (simp only [go_sem]; first | done | omega)) only [go_sem, reduceIte, reduceCtorEq, Nat.reduceAdd, Nat.reduceMul, Nat.reduceSub, Nat.reduceLeDiff, Nat.lt_irrefl, Nat.reduceLT, Nat.reduceEqDiff, Nat.reduceBEq, Int.reduceLE, Int.reduceLT, Int.reduceToNat, w64, eq_self, h.isCell])
        | (with_reducible refine AW_seq (fun K hK => ?_))
        | (with_reducible refine AW_region tyOk ?_)
        | (with_reducible refine AOps_cons (fun K hK => ?_))
        | ((with_reducible refine AOps_nil ?_); try simp only [thenA, blockA, if_true, if_false, reduceIte, Nat.reduceEqDiff, reduceCtorEq])
        | (with_reducible refine AW_block ?_)
        | ((first | (with_reducible refine AW_ret ?_) | (with_reducible refine AW_skip ?_) | (with_reducible refine AW_exit ?_)); try simp only [thenA, blockA, if_true, if_false, reduceIte, Nat.reduceEqDiff, reduceCtorEq])
        | ((with_reducible show AW _ _ (.cond _ _ _) _ _ _); refine AW_cond rfl (fun hg => ?_) (fun hg => ?_) <;> first | (exfalso; simp only [reduceCtorEq] at hg; done) | ((try simp only [Bool.not_eq_true', Bool.not_eq_false', decide_eq_true_eq, decide_eq_false_iff_not] at hg); try (exfalso; omega)))
        | ((with_reducible show _ ∧ _); refine And.intro (fun hg => ?_) (fun hg => ?_) <;> (try simp only [Bool.not_eq_true', Bool.not_eq_false'] at hg) <;> simp only [hg] <;> (try simp only [decide_eq_true_eq, decide_eq_false_iff_not] at hg) <;> (try (exfalso; omega)))
        | ((with_reducible apply FunH_intro); (first | exact hmany | exact l05Many_c _ _ _ _ _ _ _ _ (by first | assumption | exact PtL.app (by assumption) _ | exact PtL_h0 rfl | exact PtL_hj rfl) (by first | assumption | exact RdL.app (by assumption) _ | exact RdL_hj rfl (by simp) | exact RdL_h0 rfl (by simp) | exact RdL_nil | exact RdL_emp) (by first | assumption | exact RdLL.app (by assumption) _) (by first | assumption | omega | (simp; omega) | (simp; done)) | exact l05Stand_c _ _ _ _ _ _ _ _ _ _ (by first | assumption | exact PtL.app (by assumption) _ | exact PtL_h0 rfl | exact PtL_hj rfl) (by first | assumption | exact RdL.app (by assumption) _ | exact RdL_hj rfl (by simp) | exact RdL_h0 rfl (by simp) | exact RdL_nil | exact RdL_emp) (by first | assumption | exact RdLL.app (by assumption) _) (by first | assumption | omega | (simp; omega) | (simp; done)) (by first | assumption | (simp; done)) | exact l02Share_c _ _ | exact l05Place_c _ _ _ _ (by first | assumption | omega | (simp; omega) | (simp; done)) (by first | assumption | omega | (simp; omega) | (simp; done))))
        | (clear hK K)
        | fail)
      all_goals (refine EndA_cut hcl (by first | exact Or.inr rfl | exact Or.inl rfl) (by simp only [Try.results80, resA, aresL, go_sem, reduceIte, reduceCtorEq, Nat.reduceAdd, Nat.reduceMul, Nat.reduceSub, Nat.reduceLeDiff, Nat.lt_irrefl, Nat.reduceLT, Nat.reduceEqDiff, Nat.reduceBEq, Int.reduceLE, Int.reduceLT, Int.reduceToNat, w64, eq_self] <;> rfl) rfl ?_)
      all_goals exact ⟨rfl, rfl⟩
    · rw [e3] at hmany e2
      have e5 := e3
      unfold cntB at e5
      simp only [Bool.and_eq_true, decide_eq_true_eq] at e5
      obtain ⟨h1, h2, h3, h4, _⟩ := levB_len e5.1
      have hstand := l05Stand_c H.length 0 r s v L xss (some 0) true (H ++ [⟨0, false, 92, 3, [.int .i64 r, .int .i64 s, v]⟩]) (PtL_h0 rfl) (h.app _) (hL.app _) h1 h3
      obtain ⟨c, hc⟩ : ∃ c, lqC xss = c := ⟨_, rfl⟩
      have hc0 : ((stS (fun _ => true) xss xss.length : Nat) : Int) = c := hc
      rw [stS_all, hc0] at hstand
      rw [hc] at e2
      cases e6 : shareB z
      · (refine FunH_body tyOk Try.func80 rfl (by kernel_rfl) Try.ntmps80 (fun hcl hbd => ?_); simp only [List.length_cons, List.length_nil, Nat.reduceAdd, Nat.reduceSub, List.replicate, List.cons_append, List.nil_append])
        repeat' (first
          | ((with_reducible refine hK _ _ ?_); clear hK K)
          | ((first | (with_reducible show AOp _ _ _ _ _ _ _)); simp (disch := first | ((with_reducible show liveO _ _ _ = true); first | assumption | (exact liveO_setS (by assumption)) | (exact PtL.live (by assumption)) | (exact PtL.liveA (by assumption) _) | (simp only [go_sem]; done)) | omega | assumption | rfl | (simp only [go_sem]; first | done | omega)) only [go_sem, reduceIte, reduceCtorEq, Nat.reduceAdd, Nat.reduceMul, Nat.reduceSub, Nat.reduceLeDiff, Nat.lt_irrefl, Nat.reduceLT, Nat.reduceEqDiff, Nat.reduceBEq, Int.reduceLE, Int.reduceLT, Int.reduceToNat, w64, eq_self, h.isCell, e6])
          | (with_reducible refine AW_seq (fun K hK => ?_))
          | (with_reducible refine AW_region tyOk ?_)
          | (with_reducible refine AOps_cons (fun K hK => ?_))
          | ((with_reducible refine AOps_nil ?_); try simp only [thenA, blockA, if_true, if_false, reduceIte, Nat.reduceEqDiff, reduceCtorEq])
          | (with_reducible refine AW_block ?_)
          | ((first | (with_reducible refine AW_ret ?_) | (with_reducible refine AW_skip ?_) | (with_reducible refine AW_exit ?_)); try simp only [thenA, blockA, if_true, if_false, reduceIte, Nat.reduceEqDiff, reduceCtorEq])
          | ((with_reducible show AW _ _ (.cond _ _ _) _ _ _); refine AW_cond rfl (fun hg => ?_) (fun hg => ?_) <;> first | (exfalso; simp only [reduceCtorEq] at hg; done) | ((try simp only [Bool.not_eq_true', Bool.not_eq_false', decide_eq_true_eq, decide_eq_false_iff_not] at hg); try (exfalso; omega)))
          | ((with_reducible show _ ∧ _); refine And.intro (fun hg => ?_) (fun hg => ?_) <;> (try simp only [Bool.not_eq_true', Bool.not_eq_false'] at hg) <;> simp only [hg] <;> (try simp only [decide_eq_true_eq, decide_eq_false_iff_not] at hg) <;> (try (exfalso; omega)))
          | ((with_reducible apply FunH_intro); (first | exact hmany | exact l05Many_c _ _ _ _ _ _ _ _ (by first | assumption | exact PtL.app (by assumption) _ | exact PtL_h0 rfl | exact PtL_hj rfl) (by first | assumption | exact RdL.app (by assumption) _ | exact RdL_hj rfl (by simp) | exact RdL_h0 rfl (by simp) | exact RdL_nil | exact RdL_emp) (by first | assumption | exact RdLL.app (by assumption) _) (by first | assumption | omega | (simp; omega) | (simp; done)) | exact l05Stand_c _ _ _ _ _ _ _ _ _ _ (by first | assumption | exact PtL.app (by assumption) _ | exact PtL_h0 rfl | exact PtL_hj rfl) (by first | assumption | exact RdL.app (by assumption) _ | exact RdL_hj rfl (by simp) | exact RdL_h0 rfl (by simp) | exact RdL_nil | exact RdL_emp) (by first | assumption | exact RdLL.app (by assumption) _) (by first | assumption | omega | (simp; omega) | (simp; done)) (by first | assumption | (simp; done)) | exact l02Share_c _ _ | exact l05Place_c _ _ _ _ (by first | assumption | omega | (simp; omega) | (simp; done)) (by first | assumption | omega | (simp; omega) | (simp; done))))
          | (clear hK K)
          | fail)
        all_goals (refine EndA_cut hcl (by first | exact Or.inr rfl | exact Or.inl rfl) (by simp only [Try.results80, resA, aresL, go_sem, reduceIte, reduceCtorEq, Nat.reduceAdd, Nat.reduceMul, Nat.reduceSub, Nat.reduceLeDiff, Nat.lt_irrefl, Nat.reduceLT, Nat.reduceEqDiff, Nat.reduceBEq, Int.reduceLE, Int.reduceLT, Int.reduceToNat, w64, eq_self] <;> rfl) rfl ?_)
        all_goals exact ⟨rfl, rfl⟩
      · rw [e6] at e2
        have e4 : (c == 0) = true := by simpa using e2
        (refine FunH_body tyOk Try.func80 rfl (by kernel_rfl) Try.ntmps80 (fun hcl hbd => ?_); simp only [List.length_cons, List.length_nil, Nat.reduceAdd, Nat.reduceSub, List.replicate, List.cons_append, List.nil_append])
        repeat' (first
          | ((with_reducible refine hK _ _ ?_); clear hK K)
          | ((first | (with_reducible show AOp _ _ _ _ _ _ _)); simp (disch := first | ((with_reducible show liveO _ _ _ = true); first | assumption | (exact liveO_setS (by assumption)) | (exact PtL.live (by assumption)) | (exact PtL.liveA (by assumption) _) | (simp only [go_sem]; done)) | omega | assumption | rfl | (simp only [go_sem]; first | done | omega)) only [go_sem, reduceIte, reduceCtorEq, Nat.reduceAdd, Nat.reduceMul, Nat.reduceSub, Nat.reduceLeDiff, Nat.lt_irrefl, Nat.reduceLT, Nat.reduceEqDiff, Nat.reduceBEq, Int.reduceLE, Int.reduceLT, Int.reduceToNat, w64, eq_self, h.isCell, e6, e4])
          | (with_reducible refine AW_seq (fun K hK => ?_))
          | (with_reducible refine AW_region tyOk ?_)
          | (with_reducible refine AOps_cons (fun K hK => ?_))
          | ((with_reducible refine AOps_nil ?_); try simp only [thenA, blockA, if_true, if_false, reduceIte, Nat.reduceEqDiff, reduceCtorEq])
          | (with_reducible refine AW_block ?_)
          | ((first | (with_reducible refine AW_ret ?_) | (with_reducible refine AW_skip ?_) | (with_reducible refine AW_exit ?_)); try simp only [thenA, blockA, if_true, if_false, reduceIte, Nat.reduceEqDiff, reduceCtorEq])
          | ((with_reducible show AW _ _ (.cond _ _ _) _ _ _); refine AW_cond rfl (fun hg => ?_) (fun hg => ?_) <;> first | (exfalso; simp only [reduceCtorEq] at hg; done) | ((try simp only [Bool.not_eq_true', Bool.not_eq_false', decide_eq_true_eq, decide_eq_false_iff_not] at hg); try (exfalso; omega)))
          | ((with_reducible show _ ∧ _); refine And.intro (fun hg => ?_) (fun hg => ?_) <;> (try simp only [Bool.not_eq_true', Bool.not_eq_false'] at hg) <;> simp only [hg] <;> (try simp only [decide_eq_true_eq, decide_eq_false_iff_not] at hg) <;> (try (exfalso; omega)))
          | ((with_reducible apply FunH_intro); (first | exact hmany | exact hstand | exact l05Many_c _ _ _ _ _ _ _ _ (by first | assumption | exact PtL.app (by assumption) _ | exact PtL_h0 rfl | exact PtL_hj rfl) (by first | assumption | exact RdL.app (by assumption) _ | exact RdL_hj rfl (by simp) | exact RdL_h0 rfl (by simp) | exact RdL_nil | exact RdL_emp) (by first | assumption | exact RdLL.app (by assumption) _) (by first | assumption | omega | (simp; omega) | (simp; done)) | exact l05Stand_c _ _ _ _ _ _ _ _ _ _ (by first | assumption | exact PtL.app (by assumption) _ | exact PtL_h0 rfl | exact PtL_hj rfl) (by first | assumption | exact RdL.app (by assumption) _ | exact RdL_hj rfl (by simp) | exact RdL_h0 rfl (by simp) | exact RdL_nil | exact RdL_emp) (by first | assumption | exact RdLL.app (by assumption) _) (by first | assumption | omega | (simp; omega) | (simp; done)) (by first | assumption | (simp; done)) | exact l02Share_c _ _ | exact l05Place_c _ _ _ _ (by first | assumption | omega | (simp; omega) | (simp; done)) (by first | assumption | omega | (simp; omega) | (simp; done))))
          | (clear hK K)
          | fail)
        all_goals (refine EndA_cut hcl (by first | exact Or.inr rfl | exact Or.inl rfl) (by simp only [Try.results80, resA, aresL, go_sem, reduceIte, reduceCtorEq, Nat.reduceAdd, Nat.reduceMul, Nat.reduceSub, Nat.reduceLeDiff, Nat.lt_irrefl, Nat.reduceLT, Nat.reduceEqDiff, Nat.reduceBEq, Int.reduceLE, Int.reduceLT, Int.reduceToNat, w64, eq_self] <;> rfl) rfl ?_)
        all_goals exact ⟨rfl, rfl⟩
  · obtain ⟨⟨e2, e3⟩, e4⟩ : (cntB r s xss = true ∧ ¬ lqC xss = 0) ∧ shareB z = true := by unfold lqB at e1; simpa using e1
    obtain ⟨z, rfl, hw⟩ := share_some' e4
    obtain ⟨c, hc⟩ : ∃ c, lqC xss = c := ⟨_, rfl⟩
    have hc0 : ((stS (fun _ => true) xss xss.length : Nat) : Int) = c := hc
    have e5 := e2
    unfold cntB at e5
    simp only [Bool.and_eq_true, decide_eq_true_eq] at e5
    obtain ⟨h1, h2, h3, h4, _⟩ := levB_len e5.1
    have hcb : 0 ≤ c ∧ c ≤ 2000000 := by omega
    have hp1 := fun H => l05Place_c z c H hw (by omega) (by omega)
    have e3' : (c == 0) = false := by rw [← hc]; simpa using e3
    have hstand := l05Stand_c H.length 0 r s v L xss (some 0) true (H ++ [⟨0, false, 92, 3, [.int .i64 r, .int .i64 s, v]⟩]) (PtL_h0 rfl) (h.app _) (hL.app _) h1 h3
    rw [stS_all, hc0] at hstand
    rw [e2] at hmany
    (refine FunH_body tyOk Try.func80 rfl (by kernel_rfl) Try.ntmps80 (fun hcl hbd => ?_); simp only [List.length_cons, List.length_nil, Nat.reduceAdd, Nat.reduceSub, List.replicate, List.cons_append, List.nil_append])
    repeat' (first
      | ((with_reducible refine hK _ _ ?_); clear hK K)
      | ((first | (with_reducible show AOp _ _ _ _ _ _ _)); simp (disch := first | ((with_reducible show liveO _ _ _ = true); first | assumption | (exact liveO_setS (by assumption)) | (exact PtL.live (by assumption)) | (exact PtL.liveA (by assumption) _) | (simp only [go_sem]; done)) | omega | assumption | rfl | (simp only [go_sem]; first | done | omega)) only [go_sem, reduceIte, reduceCtorEq, Nat.reduceAdd, Nat.reduceMul, Nat.reduceSub, Nat.reduceLeDiff, Nat.lt_irrefl, Nat.reduceLT, Nat.reduceEqDiff, Nat.reduceBEq, Int.reduceLE, Int.reduceLT, Int.reduceToNat, w64, eq_self, h.isCell, hll, e3', e4])
      | (with_reducible refine AW_seq (fun K hK => ?_))
      | (with_reducible refine AW_region tyOk ?_)
      | (with_reducible refine AOps_cons (fun K hK => ?_))
      | ((with_reducible refine AOps_nil ?_); try simp only [thenA, blockA, if_true, if_false, reduceIte, Nat.reduceEqDiff, reduceCtorEq])
      | (with_reducible refine AW_block ?_)
      | ((first | (with_reducible refine AW_ret ?_) | (with_reducible refine AW_skip ?_) | (with_reducible refine AW_exit ?_)); try simp only [thenA, blockA, if_true, if_false, reduceIte, Nat.reduceEqDiff, reduceCtorEq])
      | ((with_reducible show AW _ _ (.cond _ _ _) _ _ _); refine AW_cond rfl (fun hg => ?_) (fun hg => ?_) <;> first | (exfalso; simp only [reduceCtorEq] at hg; done) | ((try simp only [Bool.not_eq_true', Bool.not_eq_false', decide_eq_true_eq, decide_eq_false_iff_not] at hg); try (exfalso; omega)))
      | ((with_reducible show _ ∧ _); refine And.intro (fun hg => ?_) (fun hg => ?_) <;> (try simp only [Bool.not_eq_true', Bool.not_eq_false'] at hg) <;> simp only [hg] <;> (try simp only [decide_eq_true_eq, decide_eq_false_iff_not] at hg) <;> (try (exfalso; omega)))
      | ((with_reducible apply FunH_intro); (first | exact hmany | exact hstand | exact hp1 _ | exact l05Many_c _ _ _ _ _ _ _ _ (by first | assumption | exact PtL.app (by assumption) _ | exact PtL_h0 rfl | exact PtL_hj rfl) (by first | assumption | exact RdL.app (by assumption) _ | exact RdL_hj rfl (by simp) | exact RdL_h0 rfl (by simp) | exact RdL_nil | exact RdL_emp) (by first | assumption | exact RdLL.app (by assumption) _) (by first | assumption | omega | (simp; omega) | (simp; done)) | exact l05Stand_c _ _ _ _ _ _ _ _ _ _ (by first | assumption | exact PtL.app (by assumption) _ | exact PtL_h0 rfl | exact PtL_hj rfl) (by first | assumption | exact RdL.app (by assumption) _ | exact RdL_hj rfl (by simp) | exact RdL_h0 rfl (by simp) | exact RdL_nil | exact RdL_emp) (by first | assumption | exact RdLL.app (by assumption) _) (by first | assumption | omega | (simp; omega) | (simp; done)) (by first | assumption | (simp; done)) | exact l02Share_c _ _ | exact l05Place_c _ _ _ _ (by first | assumption | omega | (simp; omega) | (simp; done)) (by first | assumption | omega | (simp; omega) | (simp; done))))
      | (clear hK K)
      | fail)
    obtain ⟨ls, rfl⟩ := words_Lq h4
    rw [List.length_map] at h1 h2 h3 hlen hll
    have h3' : ∀ j, j < ls.length → (ix ls j).length ≤ 64 := fun j hj => by
      have := h3 j hj; rw [ix_wmap _ hj, List.length_map] at this; exact this
    refine AW_loopV [8, 9, 10, 11, 12, 13, 14, 15, 36, 37, 38, 39, 40, 41, 42, 43, 44, 45, 46, 47, 48, 49, 50, 51, 52, 53, 54, 55, 56, 57, 58, 59, 60, 61, 62, 63, 64, 65, 66, 67, 68, 69, 70, 71, 72, 73, 74, 75, 76, 77, 78, 79, 80, 81, 82, 83, 84, 85, 86, 87, 88, 89, 90, 91, 92, 93, 94, 95, 96, 97, 98, 99, 100, 101, 102, 103, 104, 105, 106, 107, 108, 109, 110, 111, 112] (fun p : Nat × Hp => [(8, .sl (H.length + 1) (lqL ls p.1).length 0 (lqL ls p.1).length none), (9, .sl (H.length + 2) (lqL ls p.1).length 0 (lqL ls p.1).length none), (10, .int .i64 ((2 ^ p.1 : Nat) : Int)), (36, .int .i64 (p.1 : Nat))])
      (fun p => H ++ (⟨0, false, 92, 3, [.int .i64 r, .int .i64 s, v]⟩ :: ⟨(lqL ls p.1).length, false, 32, 1, (srt kP (lqL ls p.1)).map Vw⟩ :: ⟨(lqL ls p.1).length, false, 2, 1, (srt kP (lqL ls p.1)).map Nw⟩ :: p.2)) (fun p => p.1 ≤ ls.length) (fun p => ls.length - p.1) (0, []) (Nat.zero_le _) ?_ rfl ?_
    · simp only [junkAll, setAll, List.foldl_cons, List.foldl_nil, List.set_cons_succ, List.set_cons_zero, JL, true_or, or_true, and_true, true_and, reduceCtorEq, false_or, or_false, LV.int.injEq, LV.bool.injEq, LV.flt.injEq, LV.sl.injEq, LV.ptr.injEq, eq_self, Int.natCast_add, Int.natCast_one, Int.natCast_zero, Int.ofNat_zero]; repeat' (first | rfl | refine And.intro ?_ ?_)
    intro ⟨n, G⟩ hnl K hK
    simp only at hnl
    simp only [junkAll, setAll, List.foldl_cons, List.foldl_nil, List.set_cons_succ, List.set_cons_zero]
    have hln := lqL_len ls h3' n hnl
    by_cases hnn : n < ls.length
    · have hi := hL.at (k := n) (by rw [List.length_map]; exact hnn)
      rw [ix_wmap _ hnn] at hi
      have hiw := h3' n hnn
      repeat' (first
        | ((with_reducible refine hK _ _ ?_); clear hK K)
        | ((first | (with_reducible show AOp _ _ _ _ _ _ _)); simp (disch := first | ((with_reducible show liveO _ _ _ = true); first | assumption | (exact liveO_setS (by assumption)) | (exact PtL.live (by assumption)) | (exact PtL.liveA (by assumption) _) | (simp only [go_sem]; done)) | omega | assumption | rfl | (simp only [go_sem]; first | done | omega)) only [go_sem, reduceIte, reduceCtorEq, Nat.reduceAdd, Nat.reduceMul, Nat.reduceSub, Nat.reduceLeDiff, Nat.lt_irrefl, Nat.reduceLT, Nat.reduceEqDiff, Nat.reduceBEq, Int.reduceLE, Int.reduceLT, Int.reduceToNat, w64, eq_self, hll, h.idxA, h.ldxA, hi.lenm])
        | (with_reducible refine AW_seq (fun K hK => ?_))
        | (with_reducible refine AW_region tyOk ?_)
        | (with_reducible refine AOps_cons (fun K hK => ?_))
        | ((with_reducible refine AOps_nil ?_); try simp only [thenA, blockA, if_true, if_false, reduceIte, Nat.reduceEqDiff, reduceCtorEq])
        | (with_reducible refine AW_block ?_)
        | ((first | (with_reducible refine AW_ret ?_) | (with_reducible refine AW_skip ?_) | (with_reducible refine AW_exit ?_)); try simp only [thenA, blockA, if_true, if_false, reduceIte, Nat.reduceEqDiff, reduceCtorEq])
        | ((with_reducible show AW _ _ (.cond _ _ _) _ _ _); refine AW_cond rfl (fun hg => ?_) (fun hg => ?_) <;> first | (exfalso; simp only [reduceCtorEq] at hg; done) | ((try simp only [Bool.not_eq_true', Bool.not_eq_false', decide_eq_true_eq, decide_eq_false_iff_not] at hg); try (exfalso; omega)))
        | ((with_reducible show _ ∧ _); refine And.intro (fun hg => ?_) (fun hg => ?_) <;> (try simp only [Bool.not_eq_true', Bool.not_eq_false'] at hg) <;> simp only [hg] <;> (try simp only [decide_eq_true_eq, decide_eq_false_iff_not] at hg) <;> (try (exfalso; omega)))
        | (clear hK K)
        | fail)
      refine AW_loopV [8, 9, 12, 13, 14, 15, 45, 46, 47, 48, 49, 50, 51, 52, 53, 54, 55, 56, 57, 58, 59, 60, 61, 62, 63, 64, 65, 66, 67, 68, 69, 70, 71, 72, 73, 74, 75, 76, 77, 78, 79, 80, 81, 82, 83, 84, 85, 86, 87, 88, 89, 90, 91, 92, 93, 94, 95, 96, 97, 98, 99, 100, 101, 102, 103, 104, 105, 106, 107, 108, 109] (fun p : Nat × Hp => [(8, .sl (H.length + 1) ((lqL ls n).length + p.1) 0 ((lqL ls n).length + p.1) none), (9, .sl (H.length + 2) ((lqL ls n).length + p.1) 0 ((lqL ls n).length + p.1) none), (45, .int .i64 (p.1 : Nat))])
        (fun p => H ++ (⟨0, false, 92, 3, [.int .i64 r, .int .i64 s, v]⟩ :: ⟨(lqL ls n).length + p.1, false, 32, 1, (srt kP (lqL ls n ++ ((ix ls n).take p.1).map fun w => (w, ((2 ^ n : Nat) : Int)))).map Vw⟩ :: ⟨(lqL ls n).length + p.1, false, 2, 1, (srt kP (lqL ls n ++ ((ix ls n).take p.1).map fun w => (w, ((2 ^ n : Nat) : Int)))).map Nw⟩ :: p.2)) (fun p => p.1 ≤ (ix ls n).length) (fun p => (ix ls n).length - p.1) (0, G) (Nat.zero_le _) ?_ ?_ ?_
      · simp only [junkAll, setAll, List.foldl_cons, List.foldl_nil, List.set_cons_succ, List.set_cons_zero, JL, true_or, or_true, and_true, true_and, reduceCtorEq, false_or, or_false, LV.int.injEq, LV.bool.injEq, LV.flt.injEq, LV.sl.injEq, LV.ptr.injEq, eq_self, Int.natCast_add, Int.natCast_one, Int.natCast_zero, Int.ofNat_zero]; repeat' (first | rfl | refine And.intro ?_ ?_)
      · simp only [List.take_zero, List.map_nil, List.append_nil]; rfl
      intro ⟨j, G⟩ hj K2 hK2
      simp only at hj
      simp only [junkAll, setAll, List.foldl_cons, List.foldl_nil, List.set_cons_succ, List.set_cons_zero]
      by_cases hjn : j < (ix ls n).length
      · have hx : ix ((ix ls n).map some) j = some (ix (ix ls n) j) := by
          rw [ix_eq _ _ (by rw [List.length_map]; exact hjn), ix_eq _ _ hjn, List.getElem_map]
        have hat := lqL_at ls n j hjn
        obtain ⟨D, hD⟩ : ∃ D, lqL ls n ++ ((ix ls n).take j).map (fun w => (w, ((2 ^ n : Nat) : Int))) = D := ⟨_, rfl⟩
        have hDl : D.length = (lqL ls n).length + j := by rw [← hD, List.length_append, List.length_map, List.length_take]; omega
        obtain ⟨x, hxe⟩ : ∃ x, ix (ix ls n) j = x := ⟨_, rfl⟩
        rw [hxe] at hx hat
        rw [hD] at hat ⊢
        obtain ⟨e, hee⟩ : ∃ e : Nat, 2 ^ n = e := ⟨_, rfl⟩
        have hput := srt_putAt (key := kP) D (x, ((2 ^ n : Nat) : Int))
        rw [← hat] at hput
        obtain ⟨S, hS⟩ : ∃ S, srt kP D = S := ⟨_, rfl⟩
        have hSl : S.length = (lqL ls n).length + j := by rw [← hS, srt_len, hDl]
        have hSa : Asc kP S := by rw [← hS]; exact srt_asc _
        rw [hS] at hput ⊢
        obtain ⟨d, hd⟩ : ∃ d, (lqL ls n).length + j = d := ⟨_, rfl⟩
        rw [hd] at hSl
        simp only [hd]
        repeat' (first
          | ((with_reducible refine hK _ _ ?_); clear hK K)
          | ((first | (with_reducible show AOp _ _ _ _ _ _ _)); simp (disch := first | ((with_reducible show liveO _ _ _ = true); first | assumption | (exact liveO_setS (by assumption)) | (exact PtL.live (by assumption)) | (exact PtL.liveA (by assumption) _) | (simp only [go_sem]; done)) | omega | assumption | rfl | (simp only [go_sem]; first | done | omega)) only [go_sem, reduceIte, reduceCtorEq, Nat.reduceAdd, Nat.reduceMul, Nat.reduceSub, Nat.reduceLeDiff, Nat.lt_irrefl, Nat.reduceLT, Nat.reduceEqDiff, Nat.reduceBEq, Int.reduceLE, Int.reduceLT, Int.reduceToNat, w64, eq_self, hll, h.idxA, h.ldxA, hi.lenm, hi.idxmA, hi.ldmA, hx])
          | ((with_reducible refine AW_seqN [18] ?_ (fun K hK => ?_)); (exact rfl))
          | (with_reducible refine AW_region tyOk ?_)
          | (with_reducible refine AOps_cons (fun K hK => ?_))
          | ((with_reducible refine AOps_nil ?_); try simp only [thenA, blockA, if_true, if_false, reduceIte, Nat.reduceEqDiff, reduceCtorEq])
          | (with_reducible refine AW_block ?_)
          | ((first | (with_reducible refine AW_ret ?_) | (with_reducible refine AW_skip ?_) | (with_reducible refine AW_exit ?_)); try simp only [thenA, blockA, if_true, if_false, reduceIte, Nat.reduceEqDiff, reduceCtorEq])
          | ((with_reducible show AW _ _ (.cond _ _ _) _ _ _); refine AW_cond rfl (fun hg => ?_) (fun hg => ?_) <;> first | (exfalso; simp only [reduceCtorEq] at hg; done) | ((try simp only [Bool.not_eq_true', Bool.not_eq_false', decide_eq_true_eq, decide_eq_false_iff_not] at hg); try (exfalso; omega)))
          | ((with_reducible show _ ∧ _); refine And.intro (fun hg => ?_) (fun hg => ?_) <;> (try simp only [Bool.not_eq_true', Bool.not_eq_false'] at hg) <;> simp only [hg] <;> (try simp only [decide_eq_true_eq, decide_eq_false_iff_not] at hg) <;> (try (exfalso; omega)))
          | (clear hK K)
          | fail)
        refine AW_seqM [14, 58, 59, 60, 61, 62, 63, 64, 65, 66, 67, 68, 69, 70] (fun t : Nat => [(14, .int .i64 (t : Nat))]) (fun _ => H ++ (⟨0, false, 92, 3, [.int .i64 r, .int .i64 s, v]⟩ :: ⟨d, false, 32, 1, S.map Vw⟩ :: ⟨d, false, 2, 1, S.map Nw⟩ :: G)) (fun t => t ≤ S.length ∧ (∀ p ∈ S.drop t, kW x < kP p) ∧ ∀ p ∈ S.take t, kP p ≤ kW x) (fun K3 hK3 => ?_) (fun t ht => ?_)
        · refine AW_block ?_
          refine AW_loopV [14, 58, 59, 60, 61, 62, 63, 64, 65, 66, 67, 68, 69, 70] (fun t : Nat => [(14, .int .i64 (t : Nat))]) (fun _ => H ++ (⟨0, false, 92, 3, [.int .i64 r, .int .i64 s, v]⟩ :: ⟨d, false, 32, 1, S.map Vw⟩ :: ⟨d, false, 2, 1, S.map Nw⟩ :: G)) (fun t => t ≤ S.length ∧ ∀ p ∈ S.drop t, kW x < kP p) (fun t => t) S.length ⟨Nat.le_refl _, by simp⟩ ?_ rfl ?_
          · simp only [junkAll, setAll, List.foldl_cons, List.foldl_nil, List.set_cons_succ, List.set_cons_zero, JL, true_or, or_true, and_true, true_and, reduceCtorEq, false_or, or_false, LV.int.injEq, LV.bool.injEq, LV.flt.injEq, LV.sl.injEq, LV.ptr.injEq, eq_self, Int.natCast_add, Int.natCast_one, Int.natCast_zero, Int.ofNat_zero]; rw [hSl]
          intro t ⟨ht, hq⟩ K4 hK4
          simp only [junkAll, setAll, List.foldl_cons, List.foldl_nil, List.set_cons_succ, List.set_cons_zero]
          cases t with
          | zero =>
            repeat' (first
              | ((with_reducible refine hK _ _ ?_); clear hK K)
              | ((first | (with_reducible show AOp _ _ _ _ _ _ _)); simp (disch := first | ((with_reducible show liveO _ _ _ = true); first | assumption | (exact liveO_setS (by assumption)) | (exact PtL.live (by assumption)) | (exact PtL.liveA (by assumption) _) | (simp only [go_sem]; done)) | omega | assumption | rfl | (simp only [go_sem]; first | done | omega)) only [go_sem, reduceIte, reduceCtorEq, Nat.reduceAdd, Nat.reduceMul, Nat.reduceSub, Nat.reduceLeDiff, Nat.lt_irrefl, Nat.reduceLT, Nat.reduceEqDiff, Nat.reduceBEq, Int.reduceLE, Int.reduceLT, Int.reduceToNat, w64, eq_self])
              | (with_reducible refine AW_seq (fun K hK => ?_))
              | (with_reducible refine AW_region tyOk ?_)
              | (with_reducible refine AOps_cons (fun K hK => ?_))
              | ((with_reducible refine AOps_nil ?_); try simp only [thenA, blockA, if_true, if_false, reduceIte, Nat.reduceEqDiff, reduceCtorEq])
              | (with_reducible refine AW_block ?_)
              | ((first | (with_reducible refine AW_ret ?_) | (with_reducible refine AW_skip ?_) | (with_reducible refine AW_exit ?_)); try simp only [thenA, blockA, if_true, if_false, reduceIte, Nat.reduceEqDiff, reduceCtorEq])
              | ((with_reducible show AW _ _ (.cond _ _ _) _ _ _); refine AW_cond rfl (fun hg => ?_) (fun hg => ?_) <;> first | (exfalso; simp only [reduceCtorEq] at hg; done) | ((try simp only [Bool.not_eq_true', Bool.not_eq_false', decide_eq_true_eq, decide_eq_false_iff_not] at hg); try (exfalso; omega)))
              | ((with_reducible show _ ∧ _); refine And.intro (fun hg => ?_) (fun hg => ?_) <;> (try simp only [Bool.not_eq_true', Bool.not_eq_false'] at hg) <;> simp only [hg] <;> (try simp only [decide_eq_true_eq, decide_eq_false_iff_not] at hg) <;> (try (exfalso; omega)))
              | (clear hK K)
              | fail)
            refine hK3 _ _ 0 ⟨Nat.zero_le _, fun p hp => hq p (by simpa using hp), by simp⟩ ?_ rfl
            simp only [junkAll, setAll, List.foldl_cons, List.foldl_nil, List.set_cons_succ, List.set_cons_zero, JL, true_or, or_true, and_true, true_and, reduceCtorEq, false_or, or_false, LV.int.injEq, LV.bool.injEq, LV.flt.injEq, LV.sl.injEq, LV.ptr.injEq, eq_self, Int.natCast_add, Int.natCast_one, Int.natCast_zero, Int.ofNat_zero]
          | succ t =>
            have hg1 : (S.map Vw)[t]? = some (.flt .f32 (some (ix S t).1)) := by rw [List.getElem?_map, ix_get? _ _ (by omega)]; rfl
            have ej : (((t + 1 : Nat) : Int) - 1).toNat = t := by omega
            by_cases hcf : kW x < kP (ix S t)
            · have hgt : fGt .f32 (some (ix S t).1) (some x) = true := by rw [fGt_key]; exact decide_eq_true hcf
              repeat' (first
                | ((with_reducible refine hK _ _ ?_); clear hK K)
                | ((first | (with_reducible show AOp _ _ _ _ _ _ _)); simp (disch := first | ((with_reducible show liveO _ _ _ = true); first | assumption | (exact liveO_setS (by assumption)) | (exact PtL.live (by assumption)) | (exact PtL.liveA (by assumption) _) | (simp only [go_sem]; done)) | omega | assumption | rfl | (simp only [go_sem]; first | done | omega)) only [go_sem, reduceIte, reduceCtorEq, Nat.reduceAdd, Nat.reduceMul, Nat.reduceSub, Nat.reduceLeDiff, Nat.lt_irrefl, Nat.reduceLT, Nat.reduceEqDiff, Nat.reduceBEq, Int.reduceLE, Int.reduceLT, Int.reduceToNat, w64, eq_self, hg1, ej, hgt])
                | (with_reducible refine AW_seq (fun K hK => ?_))
                | (with_reducible refine AW_region tyOk ?_)
                | (with_reducible refine AOps_cons (fun K hK => ?_))
                | ((with_reducible refine AOps_nil ?_); try simp only [thenA, blockA, if_true, if_false, reduceIte, Nat.reduceEqDiff, reduceCtorEq])
                | (with_reducible refine AW_block ?_)
                | ((first | (with_reducible refine AW_ret ?_) | (with_reducible refine AW_skip ?_) | (with_reducible refine AW_exit ?_)); try simp only [thenA, blockA, if_true, if_false, reduceIte, Nat.reduceEqDiff, reduceCtorEq])
                | ((with_reducible show AW _ _ (.cond _ _ _) _ _ _); refine AW_cond rfl (fun hg => ?_) (fun hg => ?_) <;> first | (exfalso; simp only [reduceCtorEq] at hg; done) | ((try simp only [Bool.not_eq_true', Bool.not_eq_false', decide_eq_true_eq, decide_eq_false_iff_not] at hg); try (exfalso; omega)))
                | ((with_reducible show _ ∧ _); refine And.intro (fun hg => ?_) (fun hg => ?_) <;> (try simp only [Bool.not_eq_true', Bool.not_eq_false'] at hg) <;> simp only [hg] <;> (try simp only [decide_eq_true_eq, decide_eq_false_iff_not] at hg) <;> (try (exfalso; omega)))
                | (clear hK K)
                | fail)
              refine hK4 _ _ t ⟨by omega, fun p hp => ?_⟩ (by omega) ?_ rfl
              · rw [drop_ix S t (by omega)] at hp
                rcases List.mem_cons.1 hp with rfl | hp
                · exact hcf
                · exact hq p hp
              · simp only [junkAll, setAll, List.foldl_cons, List.foldl_nil, List.set_cons_succ, List.set_cons_zero, JL, true_or, or_true, and_true, true_and, reduceCtorEq, false_or, or_false, LV.int.injEq, LV.bool.injEq, LV.flt.injEq, LV.sl.injEq, LV.ptr.injEq, eq_self, Int.natCast_add, Int.natCast_one, Int.natCast_zero, Int.ofNat_zero]; omega
            · have hgt : fGt .f32 (some (ix S t).1) (some x) = false := by rw [fGt_key]; exact decide_eq_false hcf
              repeat' (first
                | ((with_reducible refine hK _ _ ?_); clear hK K)
                | ((first | (with_reducible show AOp _ _ _ _ _ _ _)); simp (disch := first | ((with_reducible show liveO _ _ _ = true); first | assumption | (exact liveO_setS (by assumption)) | (exact PtL.live (by assumption)) | (exact PtL.liveA (by assumption) _) | (simp only [go_sem]; done)) | omega | assumption | rfl | (simp only [go_sem]; first | done | omega)) only [go_sem, reduceIte, reduceCtorEq, Nat.reduceAdd, Nat.reduceMul, Nat.reduceSub, Nat.reduceLeDiff, Nat.lt_irrefl, Nat.reduceLT, Nat.reduceEqDiff, Nat.reduceBEq, Int.reduceLE, Int.reduceLT, Int.reduceToNat, w64, eq_self, hg1, ej, hgt])
                | (with_reducible refine AW_seq (fun K hK => ?_))
                | (with_reducible refine AW_region tyOk ?_)
                | (with_reducible refine AOps_cons (fun K hK => ?_))
                | ((with_reducible refine AOps_nil ?_); try simp only [thenA, blockA, if_true, if_false, reduceIte, Nat.reduceEqDiff, reduceCtorEq])
                | (with_reducible refine AW_block ?_)
                | ((first | (with_reducible refine AW_ret ?_) | (with_reducible refine AW_skip ?_) | (with_reducible refine AW_exit ?_)); try simp only [thenA, blockA, if_true, if_false, reduceIte, Nat.reduceEqDiff, reduceCtorEq])
                | ((with_reducible show AW _ _ (.cond _ _ _) _ _ _); refine AW_cond rfl (fun hg => ?_) (fun hg => ?_) <;> first | (exfalso; simp only [reduceCtorEq] at hg; done) | ((try simp only [Bool.not_eq_true', Bool.not_eq_false', decide_eq_true_eq, decide_eq_false_iff_not] at hg); try (exfalso; omega)))
                | ((with_reducible show _ ∧ _); refine And.intro (fun hg => ?_) (fun hg => ?_) <;> (try simp only [Bool.not_eq_true', Bool.not_eq_false'] at hg) <;> simp only [hg] <;> (try simp only [decide_eq_true_eq, decide_eq_false_iff_not] at hg) <;> (try (exfalso; omega)))
                | (clear hK K)
                | fail)
              refine hK3 _ _ (t + 1) ⟨ht, hq, fun p hp => ?_⟩ ?_ rfl
              · obtain ⟨m, m1, m2, rfl⟩ := mem_take_ix hp
                exact Int.le_trans (asc_ix hSa (i := m) (j := t) (by omega) (by omega)) (by omega)
              · simp only [junkAll, setAll, List.foldl_cons, List.foldl_nil, List.set_cons_succ, List.set_cons_zero, JL, true_or, or_true, and_true, true_and, reduceCtorEq, false_or, or_false, LV.int.injEq, LV.bool.injEq, LV.flt.injEq, LV.sl.injEq, LV.ptr.injEq, eq_self, Int.natCast_add, Int.natCast_one, Int.natCast_zero, Int.ofNat_zero]
        · obtain ⟨ht, hq1, hq2⟩ := ht
          have hput := hput t hq2 hq1
          rw [hee] at hput
          have hVl : (S.map Vw).length = d := by rw [List.length_map, hSl]
          have hNl : (S.map Nw).length = d := by rw [List.length_map, hSl]
          have hVc : (S.map Vw).all LV.isCell = true := by rw [List.all_eq_true]; intro y hy; obtain ⟨u, _, rfl⟩ := List.mem_map.1 hy; rfl
          have hNc : (S.map Nw).all LV.isCell = true := by rw [List.all_eq_true]; intro y hy; obtain ⟨u, _, rfl⟩ := List.mem_map.1 hy; rfl
          simp only [junkAll, setAll, List.foldl_cons, List.foldl_nil, List.set_cons_succ, List.set_cons_zero]
          repeat' (first
            | ((with_reducible refine hK _ _ ?_); clear hK K)
            | ((first | (with_reducible show AOp _ _ _ _ _ _ _)); simp (disch := first | ((with_reducible show liveO _ _ _ = true); first | assumption | (exact liveO_setS (by assumption)) | (exact PtL.live (by assumption)) | (exact PtL.liveA (by assumption) _) | (simp only [go_sem]; done)) | omega | assumption | rfl | (simp only [go_sem]; first | done | omega)) only [go_sem, reduceIte, reduceCtorEq, Nat.reduceAdd, Nat.reduceMul, Nat.reduceSub, Nat.reduceLeDiff, Nat.lt_irrefl, Nat.reduceLT, Nat.reduceEqDiff, Nat.reduceBEq, Int.reduceLE, Int.reduceLT, Int.reduceToNat, w64, eq_self, hVl, hNl, hVc, hNc])
            | ((with_reducible refine AW_seqN [23] ?_ (fun K hK => ?_)); (exact rfl))
            | (with_reducible refine AW_region tyOk ?_)
            | (with_reducible refine AOps_cons (fun K hK => ?_))
            | ((with_reducible refine AOps_nil ?_); try simp only [thenA, blockA, if_true, if_false, reduceIte, Nat.reduceEqDiff, reduceCtorEq])
            | (with_reducible refine AW_block ?_)
            | ((first | (with_reducible refine AW_ret ?_) | (with_reducible refine AW_skip ?_) | (with_reducible refine AW_exit ?_)); try simp only [thenA, blockA, if_true, if_false, reduceIte, Nat.reduceEqDiff, reduceCtorEq])
            | ((with_reducible show AW _ _ (.cond _ _ _) _ _ _); refine AW_cond rfl (fun hg => ?_) (fun hg => ?_) <;> first | (exfalso; simp only [reduceCtorEq] at hg; done) | ((try simp only [Bool.not_eq_true', Bool.not_eq_false', decide_eq_true_eq, decide_eq_false_iff_not] at hg); try (exfalso; omega)))
            | ((with_reducible show _ ∧ _); refine And.intro (fun hg => ?_) (fun hg => ?_) <;> (try simp only [Bool.not_eq_true', Bool.not_eq_false'] at hg) <;> simp only [hg] <;> (try simp only [decide_eq_true_eq, decide_eq_false_iff_not] at hg) <;> (try (exfalso; omega)))
            | ((with_reducible apply FunH_intro); (first | exact l05Many_c _ _ _ _ _ _ _ _ (by first | assumption | exact PtL.app (by assumption) _ | exact PtL_h0 rfl | exact PtL_hj rfl) (by first | assumption | exact RdL.app (by assumption) _ | exact RdL_hj rfl (by simp) | exact RdL_h0 rfl (by simp) | exact RdL_nil | exact RdL_emp) (by first | assumption | exact RdLL.app (by assumption) _) (by first | assumption | omega | (simp; omega) | (simp; done)) | exact l05Stand_c _ _ _ _ _ _ _ _ _ _ (by first | assumption | exact PtL.app (by assumption) _ | exact PtL_h0 rfl | exact PtL_hj rfl) (by first | assumption | exact RdL.app (by assumption) _ | exact RdL_hj rfl (by simp) | exact RdL_h0 rfl (by simp) | exact RdL_nil | exact RdL_emp) (by first | assumption | exact RdLL.app (by assumption) _) (by first | assumption | omega | (simp; omega) | (simp; done)) (by first | assumption | (simp; done)) | exact l02Share_c _ _ | exact l05Place_c _ _ _ _ (by first | assumption | omega | (simp; omega) | (simp; done)) (by first | assumption | omega | (simp; omega) | (simp; done))))
            | (clear hK K)
            | fail)
          obtain ⟨G2, hG2⟩ : ∃ G2, G ++ [(⟨0, false, 32, 1, [.flt .f32 (some 0)]⟩ : AO), ⟨0, false, 2, 1, [.int .i64 0]⟩] = G2 := ⟨_, rfl⟩
          rw [hG2]
          refine AW_loopV [15, 80, 81, 82, 83, 84, 85, 86, 87, 88, 89, 90, 91, 92, 93, 94, 95, 96, 97, 98, 99, 100] (fun p : Nat × LV × LV => [(15, .int .i64 (p.1 : Nat))]) (fun p => H ++ (⟨0, false, 92, 3, [.int .i64 r, .int .i64 s, v]⟩ :: ⟨d + 1, false, 32, 1, shL (S.map Vw) p.1 p.2.1⟩ :: ⟨d + 1, false, 2, 1, shL (S.map Nw) p.1 p.2.2⟩ :: G2)) (fun p => t ≤ p.1 ∧ p.1 ≤ d) (fun p => p.1) (d, .flt .f32 (some 0), .int .i64 0) ⟨by simp only; omega, Nat.le_refl _⟩ ?_ ?_ ?_
          · simp only [junkAll, setAll, List.foldl_cons, List.foldl_nil, List.set_cons_succ, List.set_cons_zero, JL, true_or, or_true, and_true, true_and, reduceCtorEq, false_or, or_false, LV.int.injEq, LV.bool.injEq, LV.flt.injEq, LV.sl.injEq, LV.ptr.injEq, eq_self, Int.natCast_add, Int.natCast_one, Int.natCast_zero, Int.ofNat_zero]; omega
          · simp only; rw [shL_end _ _ hVl, shL_end _ _ hNl]
          intro ⟨m, y, u⟩ ⟨hm1, hm2⟩ K3 hK3
          simp only at hm1 hm2
          simp only [junkAll, setAll, List.foldl_cons, List.foldl_nil, List.set_cons_succ, List.set_cons_zero]
          have hLV := shL_len (S.map Vw)
          have hLN := shL_len (S.map Nw)
          rw [hVl] at hLV
          rw [hNl] at hLN
          by_cases hmt : t < m
          · obtain ⟨m, rfl⟩ : ∃ m', m = m' + 1 := ⟨m - 1, by omega⟩
            have hv1 : (S.map Vw)[m]? = some (.flt .f32 (some (ix S m).1)) := by rw [List.getElem?_map, ix_get? _ _ (by omega)]; rfl
            have hn1 : (S.map Nw)[m]? = some (.int .i64 (ix S m).2) := by rw [List.getElem?_map, ix_get? _ _ (by omega)]; rfl
            have hv2 := shL_get (S.map Vw) m y (by omega)
            have hn2 := shL_get (S.map Nw) m u (by omega)
            have hv3 := shL_down (S.map Vw) m y _ (by omega) hv1
            have hn3 := shL_down (S.map Nw) m u _ (by omega) hn1
            have ej : (((m + 1 : Nat) : Int) - 1).toNat = m := by omega
            have hLV := hLV (m + 1) y
            have hLN := hLN (m + 1) u
            repeat' (first
              | ((with_reducible refine hK _ _ ?_); clear hK K)
              | ((first | (with_reducible show AOp _ _ _ _ _ _ _)); simp (disch := first | ((with_reducible show liveO _ _ _ = true); first | assumption | (exact liveO_setS (by assumption)) | (exact PtL.live (by assumption)) | (exact PtL.liveA (by assumption) _) | (simp only [go_sem]; done)) | omega | assumption | rfl | (simp only [go_sem]; first | done | omega)) only [go_sem, reduceIte, reduceCtorEq, Nat.reduceAdd, Nat.reduceMul, Nat.reduceSub, Nat.reduceLeDiff, Nat.lt_irrefl, Nat.reduceLT, Nat.reduceEqDiff, Nat.reduceBEq, Int.reduceLE, Int.reduceLT, Int.reduceToNat, w64, eq_self, ej, hv2, hn2, hv1, hn1, hv3, hn3, hLV, hLN])
              | (with_reducible refine AW_seq (fun K hK => ?_))
              | (with_reducible refine AW_region tyOk ?_)
              | (with_reducible refine AOps_cons (fun K hK => ?_))
              | ((with_reducible refine AOps_nil ?_); try simp only [thenA, blockA, if_true, if_false, reduceIte, Nat.reduceEqDiff, reduceCtorEq])
              | (with_reducible refine AW_block ?_)
              | ((first | (with_reducible refine AW_ret ?_) | (with_reducible refine AW_skip ?_) | (with_reducible refine AW_exit ?_)); try simp only [thenA, blockA, if_true, if_false, reduceIte, Nat.reduceEqDiff, reduceCtorEq])
              | ((with_reducible show AW _ _ (.cond _ _ _) _ _ _); refine AW_cond rfl (fun hg => ?_) (fun hg => ?_) <;> first | (exfalso; simp only [reduceCtorEq] at hg; done) | ((try simp only [Bool.not_eq_true', Bool.not_eq_false', decide_eq_true_eq, decide_eq_false_iff_not] at hg); try (exfalso; omega)))
              | ((with_reducible show _ ∧ _); refine And.intro (fun hg => ?_) (fun hg => ?_) <;> (try simp only [Bool.not_eq_true', Bool.not_eq_false'] at hg) <;> simp only [hg] <;> (try simp only [decide_eq_true_eq, decide_eq_false_iff_not] at hg) <;> (try (exfalso; omega)))
              | (clear hK K)
              | fail)
            refine hK3 _ _ (m, _, _) ⟨by simp only; omega, by simp only; omega⟩ (by simp only; omega) ?_ rfl
            simp only [junkAll, setAll, List.foldl_cons, List.foldl_nil, List.set_cons_succ, List.set_cons_zero, JL, true_or, or_true, and_true, true_and, reduceCtorEq, false_or, or_false, LV.int.injEq, LV.bool.injEq, LV.flt.injEq, LV.sl.injEq, LV.ptr.injEq, eq_self, Int.natCast_add, Int.natCast_one, Int.natCast_zero, Int.ofNat_zero]; omega
          · have hmt : m = t := by omega
            subst hmt
            have hv3 := shL_set (S.map Vw) m (Vw (x, (e : Int))) y (by omega)
            have hn3 := shL_set (S.map Nw) m (Nw (x, (e : Int))) u (by omega)
            rw [shL_map] at hv3 hn3
            rw [← hput] at hv3 hn3
            simp only [Vw] at hv3
            simp only [Nw] at hn3
            rw [hee]
            have hLV := hLV m y
            have hLN := hLN m u
            repeat' (first
              | ((with_reducible refine hK _ _ ?_); clear hK K)
              | ((first | (with_reducible show AOp _ _ _ _ _ _ _)); simp (disch := first | ((with_reducible show liveO _ _ _ = true); first | assumption | (exact liveO_setS (by assumption)) | (exact PtL.live (by assumption)) | (exact PtL.liveA (by assumption) _) | (simp only [go_sem]; done)) | omega | assumption | rfl | (simp only [go_sem]; first | done | omega)) only [go_sem, reduceIte, reduceCtorEq, Nat.reduceAdd, Nat.reduceMul, Nat.reduceSub, Nat.reduceLeDiff, Nat.lt_irrefl, Nat.reduceLT, Nat.reduceEqDiff, Nat.reduceBEq, Int.reduceLE, Int.reduceLT, Int.reduceToNat, w64, eq_self, hv3, hn3, hLV, hLN])
              | (with_reducible refine AW_seq (fun K hK => ?_))
              | (with_reducible refine AW_region tyOk ?_)
              | (with_reducible refine AOps_cons (fun K hK => ?_))
              | ((with_reducible refine AOps_nil ?_); try simp only [thenA, blockA, if_true, if_false, reduceIte, Nat.reduceEqDiff, reduceCtorEq])
              | (with_reducible refine AW_block ?_)
              | ((first | (with_reducible refine AW_ret ?_) | (with_reducible refine AW_skip ?_) | (with_reducible refine AW_exit ?_)); try simp only [thenA, blockA, if_true, if_false, reduceIte, Nat.reduceEqDiff, reduceCtorEq])
              | ((with_reducible show AW _ _ (.cond _ _ _) _ _ _); refine AW_cond rfl (fun hg => ?_) (fun hg => ?_) <;> first | (exfalso; simp only [reduceCtorEq] at hg; done) | ((try simp only [Bool.not_eq_true', Bool.not_eq_false', decide_eq_true_eq, decide_eq_false_iff_not] at hg); try (exfalso; omega)))
              | ((with_reducible show _ ∧ _); refine And.intro (fun hg => ?_) (fun hg => ?_) <;> (try simp only [Bool.not_eq_true', Bool.not_eq_false'] at hg) <;> simp only [hg] <;> (try simp only [decide_eq_true_eq, decide_eq_false_iff_not] at hg) <;> (try (exfalso; omega)))
              | (clear hK K)
              | fail)
            refine hK2 _ _ (j + 1, G2) (by simp only; omega) (by simp only; omega) ?_ ?_
            · simp only [junkAll, setAll, List.foldl_cons, List.foldl_nil, List.set_cons_succ, List.set_cons_zero, JL, true_or, or_true, and_true, true_and, reduceCtorEq, false_or, or_false, LV.int.injEq, LV.bool.injEq, LV.flt.injEq, LV.sl.injEq, LV.ptr.injEq, eq_self, Int.natCast_add, Int.natCast_one, Int.natCast_zero, Int.ofNat_zero]
              exact ⟨⟨by omega, by omega⟩, ⟨by omega, by omega⟩, by rw [hee]⟩
            · simp only [hxe, hee, ← Nat.add_assoc, hd]
      · have hje : j = (ix ls n).length := by omega
        have hDe : lqL ls n ++ ((ix ls n).take j).map (fun w => (w, ((2 ^ n : Nat) : Int))) = lqL ls (n + 1) := by rw [hje, List.take_length]; rfl
        have hDl : (lqL ls (n + 1)).length = (lqL ls n).length + j := by rw [← hDe, List.length_append, List.length_map, List.length_take]; omega
        rw [hDe]
        have hpw : ((2 ^ n : Nat) : Int) * 2 = ((2 ^ (n + 1) : Nat) : Int) := by rw [Nat.pow_succ]; push_cast; rfl
        have hpb : 2 ^ (n + 1) ≤ 65536 := Nat.le_trans (Nat.pow_le_pow_right (by omega) (show n + 1 ≤ 16 by omega)) (by decide)
        obtain ⟨e1, he1⟩ : ∃ e, 2 ^ n = e := ⟨_, rfl⟩
        obtain ⟨e2, he2⟩ : ∃ e, 2 ^ (n + 1) = e := ⟨_, rfl⟩
        rw [he2] at hpb
        rw [he1, he2] at hpw
        rw [he1]
        repeat' (first
          | ((with_reducible refine hK _ _ ?_); clear hK K)
          | ((first | (with_reducible show AOp _ _ _ _ _ _ _)); simp (disch := first | ((with_reducible show liveO _ _ _ = true); first | assumption | (exact liveO_setS (by assumption)) | (exact PtL.live (by assumption)) | (exact PtL.liveA (by assumption) _) | (simp only [go_sem]; done)) | omega | assumption | rfl | (simp only [go_sem]; first | done | omega)) only [go_sem, reduceIte, reduceCtorEq, Nat.reduceAdd, Nat.reduceMul, Nat.reduceSub, Nat.reduceLeDiff, Nat.lt_irrefl, Nat.reduceLT, Nat.reduceEqDiff, Nat.reduceBEq, Int.reduceLE, Int.reduceLT, Int.reduceToNat, w64, eq_self, hll, h.idxA, h.ldxA, hi.lenm, hpw])
          | (with_reducible refine AW_seq (fun K hK => ?_))
          | (with_reducible refine AW_region tyOk ?_)
          | (with_reducible refine AOps_cons (fun K hK => ?_))
          | ((with_reducible refine AOps_nil ?_); try simp only [thenA, blockA, if_true, if_false, reduceIte, Nat.reduceEqDiff, reduceCtorEq])
          | (with_reducible refine AW_block ?_)
          | ((first | (with_reducible refine AW_ret ?_) | (with_reducible refine AW_skip ?_) | (with_reducible refine AW_exit ?_)); try simp only [thenA, blockA, if_true, if_false, reduceIte, Nat.reduceEqDiff, reduceCtorEq])
          | ((with_reducible show AW _ _ (.cond _ _ _) _ _ _); refine AW_cond rfl (fun hg => ?_) (fun hg => ?_) <;> first | (exfalso; simp only [reduceCtorEq] at hg; done) | ((try simp only [Bool.not_eq_true', Bool.not_eq_false', decide_eq_true_eq, decide_eq_false_iff_not] at hg); try (exfalso; omega)))
          | ((with_reducible show _ ∧ _); refine And.intro (fun hg => ?_) (fun hg => ?_) <;> (try simp only [Bool.not_eq_true', Bool.not_eq_false'] at hg) <;> simp only [hg] <;> (try simp only [decide_eq_true_eq, decide_eq_false_iff_not] at hg) <;> (try (exfalso; omega)))
          | (clear hK K)
          | fail)
        refine hK _ _ (n + 1, G) (by simp only; omega) (by simp only; omega) ?_ ?_
        · simp only [junkAll, setAll, List.foldl_cons, List.foldl_nil, List.set_cons_succ, List.set_cons_zero, JL, true_or, or_true, and_true, true_and, reduceCtorEq, false_or, or_false, LV.int.injEq, LV.bool.injEq, LV.flt.injEq, LV.sl.injEq, LV.ptr.injEq, eq_self, Int.natCast_add, Int.natCast_one, Int.natCast_zero, Int.ofNat_zero]
          exact ⟨⟨hDl.symm, hDl.symm⟩, ⟨hDl.symm, hDl.symm⟩, by rw [he2], by rw [List.length_map]⟩
        · simp only [hDl]
    · have hne : n = ls.length := by omega
      have hin := lqL_in ls n (by omega)
      obtain ⟨D, hD⟩ : ∃ D, lqL ls n = D := ⟨_, rfl⟩
      have hS0 : srt kP D = lqS (lqW (ls.map fun ws => ws.map some)) := by rw [lqW_map, ← hD, hne]; rfl
      rw [hD] at hln hin ⊢
      have hSl : (srt kP D).length = D.length := srt_len
      have hSin : ∀ p ∈ srt kP D, 0 ≤ p.2 ∧ p.2 ≤ 65536 := fun p hp => hin p (mem_srt.1 hp)
      have hR : lqG (ls.map fun ws => ws.map some) (some z) = lqF (placeI z c) (srt kP D) 0 := by unfold lqG; rw [hS0, hc]; rfl
      obtain ⟨S, hS⟩ : ∃ S, srt kP D = S := ⟨_, rfl⟩
      simp only [hS] at hSl hSin hR ⊢
      obtain ⟨k, hk⟩ : ∃ k, placeI z c = k := ⟨_, rfl⟩
      simp only [hk] at hp1 ⊢
      obtain ⟨R, hRe⟩ : ∃ R, lqF k S 0 = R := ⟨_, rfl⟩
      repeat' (first
        | ((with_reducible refine hK _ _ ?_); clear hK K)
        | ((first | (with_reducible show AOp _ _ _ _ _ _ _)); simp (disch := first | ((with_reducible show liveO _ _ _ = true); first | assumption | (exact liveO_setS (by assumption)) | (exact PtL.live (by assumption)) | (exact PtL.liveA (by assumption) _) | (simp only [go_sem]; done)) | omega | assumption | rfl | (simp only [go_sem]; first | done | omega)) only [go_sem, reduceIte, reduceCtorEq, Nat.reduceAdd, Nat.reduceMul, Nat.reduceSub, Nat.reduceLeDiff, Nat.lt_irrefl, Nat.reduceLT, Nat.reduceEqDiff, Nat.reduceBEq, Int.reduceLE, Int.reduceLT, Int.reduceToNat, w64, eq_self, hll])
        | (with_reducible refine AW_seq (fun K hK => ?_))
        | (with_reducible refine AW_region tyOk ?_)
        | (with_reducible refine AOps_cons (fun K hK => ?_))
        | ((with_reducible refine AOps_nil ?_); try simp only [thenA, blockA, if_true, if_false, reduceIte, Nat.reduceEqDiff, reduceCtorEq])
        | (with_reducible refine AW_block ?_)
        | ((first | (with_reducible refine AW_ret ?_) | (with_reducible refine AW_skip ?_) | (with_reducible refine AW_exit ?_)); try simp only [thenA, blockA, if_true, if_false, reduceIte, Nat.reduceEqDiff, reduceCtorEq])
        | ((with_reducible show AW _ _ (.cond _ _ _) _ _ _); refine AW_cond rfl (fun hg => ?_) (fun hg => ?_) <;> first | (exfalso; simp only [reduceCtorEq] at hg; done) | ((try simp only [Bool.not_eq_true', Bool.not_eq_false', decide_eq_true_eq, decide_eq_false_iff_not] at hg); try (exfalso; omega)))
        | ((with_reducible show _ ∧ _); refine And.intro (fun hg => ?_) (fun hg => ?_) <;> (try simp only [Bool.not_eq_true', Bool.not_eq_false'] at hg) <;> simp only [hg] <;> (try simp only [decide_eq_true_eq, decide_eq_false_iff_not] at hg) <;> (try (exfalso; omega)))
        | (clear hK K)
        | fail)
      refine AW_loopV [4, 5, 16, 17, 115, 116, 117, 118, 119, 120, 121, 122, 123, 124, 125, 126, 127, 128, 129, 130, 131] (fun p : Nat × Int => [(16, .int .i64 p.2), (115, .int .i64 (p.1 : Nat))]) (fun p => H ++ (⟨0, false, 92, 3, [.int .i64 r, .int .i64 s, v]⟩ :: ⟨D.length, false, 32, 1, S.map Vw⟩ :: ⟨D.length, false, 2, 1, S.map Nw⟩ :: G)) (fun p => p.1 ≤ S.length ∧ lqF k (S.drop p.1) p.2 = R ∧ 0 ≤ p.2 ∧ p.2 ≤ 65536 * (p.1 : Int)) (fun p => S.length - p.1) (0, 0) ⟨Nat.zero_le _, hRe, Int.le_refl _, Int.le_refl _⟩ ?_ rfl ?_
      · simp only [junkAll, setAll, List.foldl_cons, List.foldl_nil, List.set_cons_succ, List.set_cons_zero, JL, true_or, or_true, and_true, true_and, reduceCtorEq, false_or, or_false, LV.int.injEq, LV.bool.injEq, LV.flt.injEq, LV.sl.injEq, LV.ptr.injEq, eq_self, Int.natCast_add, Int.natCast_one, Int.natCast_zero, Int.ofNat_zero]
      intro ⟨i, sum⟩ ⟨hi, hF, hs0, hs1⟩ K hK
      simp only at hi hF hs0 hs1
      simp only [junkAll, setAll, List.foldl_cons, List.foldl_nil, List.set_cons_succ, List.set_cons_zero]
      by_cases hiS : i < S.length
      · have hwi := hSin _ (ix_mem S i hiS)
        rw [drop_ix S i hiS, lqF] at hF
        have hv1 : (S.map Vw)[i]? = some (.flt .f32 (some (ix S i).1)) := by rw [List.getElem?_map, ix_get? _ _ (by omega)]; rfl
        have hn1 : (S.map Nw)[i]? = some (.int .i64 (ix S i).2) := by rw [List.getElem?_map, ix_get? _ _ (by omega)]; rfl
        obtain ⟨⟨w, m⟩, hx⟩ : ∃ p, ix S i = p := ⟨_, rfl⟩
        rw [hx] at hF hwi hv1 hn1
        simp only at hF hwi hv1 hn1
        by_cases hkm : k ≤ sum + m
        · rw [if_pos hkm] at hF
          repeat' (first
            | ((with_reducible refine hK _ _ ?_); clear hK K)
            | ((first | (with_reducible show AOp _ _ _ _ _ _ _)); simp (disch := first | ((with_reducible show liveO _ _ _ = true); first | assumption | (exact liveO_setS (by assumption)) | (exact PtL.live (by assumption)) | (exact PtL.liveA (by assumption) _) | (simp only [go_sem]; done)) | omega | assumption | rfl | (simp only [go_sem]; first | done | omega)) only [go_sem, reduceIte, reduceCtorEq, Nat.reduceAdd, Nat.reduceMul, Nat.reduceSub, Nat.reduceLeDiff, Nat.lt_irrefl, Nat.reduceLT, Nat.reduceEqDiff, Nat.reduceBEq, Int.reduceLE, Int.reduceLT, Int.reduceToNat, w64, eq_self, hv1, hn1])
            | (with_reducible refine AW_seq (fun K hK => ?_))
            | (with_reducible refine AW_region tyOk ?_)
            | (with_reducible refine AOps_cons (fun K hK => ?_))
            | ((with_reducible refine AOps_nil ?_); try simp only [thenA, blockA, if_true, if_false, reduceIte, Nat.reduceEqDiff, reduceCtorEq])
            | (with_reducible refine AW_block ?_)
            | ((first | (with_reducible refine AW_ret ?_) | (with_reducible refine AW_skip ?_) | (with_reducible refine AW_exit ?_)); try simp only [thenA, blockA, if_true, if_false, reduceIte, Nat.reduceEqDiff, reduceCtorEq])
            | ((with_reducible show AW _ _ (.cond _ _ _) _ _ _); refine AW_cond rfl (fun hg => ?_) (fun hg => ?_) <;> first | (exfalso; simp only [reduceCtorEq] at hg; done) | ((try simp only [Bool.not_eq_true', Bool.not_eq_false', decide_eq_true_eq, decide_eq_false_iff_not] at hg); try (exfalso; omega)))
            | ((with_reducible show _ ∧ _); refine And.intro (fun hg => ?_) (fun hg => ?_) <;> (try simp only [Bool.not_eq_true', Bool.not_eq_false'] at hg) <;> simp only [hg] <;> (try simp only [decide_eq_true_eq, decide_eq_false_iff_not] at hg) <;> (try (exfalso; omega)))
            | (clear hK K)
            | fail)
          all_goals (refine EndA_cut hcl (by first | exact Or.inr rfl | exact Or.inl rfl) (by simp only [Try.results80, resA, aresL, go_sem, reduceIte, reduceCtorEq, Nat.reduceAdd, Nat.reduceMul, Nat.reduceSub, Nat.reduceLeDiff, Nat.lt_irrefl, Nat.reduceLT, Nat.reduceEqDiff, Nat.reduceBEq, Int.reduceLE, Int.reduceLT, Int.reduceToNat, w64, eq_self] <;> rfl) rfl ?_)
          all_goals exact ⟨by rw [hR, hk, hRe, ← hF]; rfl, rfl⟩
        · rw [if_neg hkm] at hF
          repeat' (first
            | ((with_reducible refine hK _ _ ?_); clear hK K)
            | ((first | (with_reducible show AOp _ _ _ _ _ _ _)); simp (disch := first | ((with_reducible show liveO _ _ _ = true); first | assumption | (exact liveO_setS (by assumption)) | (exact PtL.live (by assumption)) | (exact PtL.liveA (by assumption) _) | (simp only [go_sem]; done)) | omega | assumption | rfl | (simp only [go_sem]; first | done | omega)) only [go_sem, reduceIte, reduceCtorEq, Nat.reduceAdd, Nat.reduceMul, Nat.reduceSub, Nat.reduceLeDiff, Nat.lt_irrefl, Nat.reduceLT, Nat.reduceEqDiff, Nat.reduceBEq, Int.reduceLE, Int.reduceLT, Int.reduceToNat, w64, eq_self, hv1, hn1])
            | (with_reducible refine AW_seq (fun K hK => ?_))
            | (with_reducible refine AW_region tyOk ?_)
            | (with_reducible refine AOps_cons (fun K hK => ?_))
            | ((with_reducible refine AOps_nil ?_); try simp only [thenA, blockA, if_true, if_false, reduceIte, Nat.reduceEqDiff, reduceCtorEq])
            | (with_reducible refine AW_block ?_)
            | ((first | (with_reducible refine AW_ret ?_) | (with_reducible refine AW_skip ?_) | (with_reducible refine AW_exit ?_)); try simp only [thenA, blockA, if_true, if_false, reduceIte, Nat.reduceEqDiff, reduceCtorEq])
            | ((with_reducible show AW _ _ (.cond _ _ _) _ _ _); refine AW_cond rfl (fun hg => ?_) (fun hg => ?_) <;> first | (exfalso; simp only [reduceCtorEq] at hg; done) | ((try simp only [Bool.not_eq_true', Bool.not_eq_false', decide_eq_true_eq, decide_eq_false_iff_not] at hg); try (exfalso; omega)))
            | ((with_reducible show _ ∧ _); refine And.intro (fun hg => ?_) (fun hg => ?_) <;> (try simp only [Bool.not_eq_true', Bool.not_eq_false'] at hg) <;> simp only [hg] <;> (try simp only [decide_eq_true_eq, decide_eq_false_iff_not] at hg) <;> (try (exfalso; omega)))
            | (clear hK K)
            | fail)
          refine hK _ _ (i + 1, sum + m) ⟨by simp only; omega, hF, by simp only; omega, by simp only; omega⟩ (by simp only; omega) ?_ rfl
          simp only [junkAll, setAll, List.foldl_cons, List.foldl_nil, List.set_cons_succ, List.set_cons_zero, JL, true_or, or_true, and_true, true_and, reduceCtorEq, false_or, or_false, LV.int.injEq, LV.bool.injEq, LV.flt.injEq, LV.sl.injEq, LV.ptr.injEq, eq_self, Int.natCast_add, Int.natCast_one, Int.natCast_zero, Int.ofNat_zero]
      · repeat' (first
          | ((with_reducible refine hK _ _ ?_); clear hK K)
          | ((first | (with_reducible show AOp _ _ _ _ _ _ _)); simp (disch := first | ((with_reducible show liveO _ _ _ = true); first | assumption | (exact liveO_setS (by assumption)) | (exact PtL.live (by assumption)) | (exact PtL.liveA (by assumption) _) | (simp only [go_sem]; done)) | omega | assumption | rfl | (simp only [go_sem]; first | done | omega)) only [go_sem, reduceIte, reduceCtorEq, Nat.reduceAdd, Nat.reduceMul, Nat.reduceSub, Nat.reduceLeDiff, Nat.lt_irrefl, Nat.reduceLT, Nat.reduceEqDiff, Nat.reduceBEq, Int.reduceLE, Int.reduceLT, Int.reduceToNat, w64, eq_self])
          | (with_reducible refine AW_seq (fun K hK => ?_))
          | (with_reducible refine AW_region tyOk ?_)
          | (with_reducible refine AOps_cons (fun K hK => ?_))
          | ((with_reducible refine AOps_nil ?_); try simp only [thenA, blockA, if_true, if_false, reduceIte, Nat.reduceEqDiff, reduceCtorEq])
          | (with_reducible refine AW_block ?_)
          | ((first | (with_reducible refine AW_ret ?_) | (with_reducible refine AW_skip ?_) | (with_reducible refine AW_exit ?_)); try simp only [thenA, blockA, if_true, if_false, reduceIte, Nat.reduceEqDiff, reduceCtorEq])
          | ((with_reducible show AW _ _ (.cond _ _ _) _ _ _); refine AW_cond rfl (fun hg => ?_) (fun hg => ?_) <;> first | (exfalso; simp only [reduceCtorEq] at hg; done) | ((try simp only [Bool.not_eq_true', Bool.not_eq_false', decide_eq_true_eq, decide_eq_false_iff_not] at hg); try (exfalso; omega)))
          | ((with_reducible show _ ∧ _); refine And.intro (fun hg => ?_) (fun hg => ?_) <;> (try simp only [Bool.not_eq_true', Bool.not_eq_false'] at hg) <;> simp only [hg] <;> (try simp only [decide_eq_true_eq, decide_eq_false_iff_not] at hg) <;> (try (exfalso; omega)))
          | (clear hK K)
          | fail)
        rw [List.drop_of_length_le (by omega)] at hF
        all_goals (refine EndA_cut hcl (by first | exact Or.inr rfl | exact Or.inl rfl) (by simp only [Try.results80, resA, aresL, go_sem, reduceIte, reduceCtorEq, Nat.reduceAdd, Nat.reduceMul, Nat.reduceSub, Nat.reduceLeDiff, Nat.lt_irrefl, Nat.reduceLT, Nat.reduceEqDiff, Nat.reduceBEq, Int.reduceLE, Int.reduceLT, Int.reduceToNat, w64, eq_self] <;> rfl) rfl ?_)
        all_goals exact ⟨by rw [hR, hk, hRe, ← hF]; rfl, rfl⟩
end Go.Proofs.Ytcjpfifajbjalaa
