/- Stable sorting of elements of two cells: merging in place, all of it, in the abstract machine. -/
import Derived.Test.YteejnmgjjefbiaaGt
namespace Go.Proofs.Yteejnmgjjefbiaa
open Go.RowKit
set_option linter.unusedSimpArgs false
set_option linter.unusedVariables false
set_option linter.unusedSectionVars false
set_option maxRecDepth 100000

set_option maxHeartbeats 8000000 in
theorem symCW_step {α : Type} [Inhabited α] {F : α → List LV} {cf : α → α → Int} {key : α → Int} {g : FuncId} {caps : List LV} (hc : CmpW F cf key g caps) (N : Nat) (ih : symCW F key g caps N) (id ver el n a m b : Nat) (D : List α) (H : Hp) (h : H[id]? = some ⟨ver, false, el, 2, fl F D⟩) (hn : D.length = n) (h1 : a + 1 < m) (h2 : m + 1 < b) (h3 : b ≤ n) (hm : n ≤ 1048576) (hN : b - a ≤ N + 1) (hX : Asc key (rg D a m)) (hY : Asc key (rg D m b)) :
    FunH Try.prog 48 [.sl id ver 0 n none, .int .i64 (a : Nat), .int .i64 (m : Nat), .int .i64 (b : Nat), .fn g caps] H fun r H' => r = .tup [] ∧ H' = H.set id ⟨ver, false, el, 2, fl F (upd key D a b)⟩ := by
  have hid := lt_of_get h
  have hA : (((m : Int) - (a : Int)) == 1) = false := by rw [beq_eq_false_iff_ne]; omega
  have hB : (((b : Int) - (m : Int)) == 1) = false := by rw [beq_eq_false_iff_ne]; omega
  have hHs := (set_self h).symm
  obtain ⟨mid, hmid⟩ : ∃ mid, (a + b) / 2 = mid := ⟨_, rfl⟩
  have hme := mid_eq a b (by omega) (by omega)
  rw [hmid] at hme
  have enn : (mid : Int) + (m : Int) = ((mid + m : Nat) : Int) := by omega
  have epp : ((mid + m : Nat) : Int) - 1 = ((mid + m - 1 : Nat) : Int) := by omega
  obtain ⟨s0, r0, hcase⟩ : ∃ s0 r0 : Nat, (m ≤ mid ∧ s0 = a ∧ r0 = m) ∨ (m > mid ∧ s0 = mid + m - b ∧ r0 = mid) := by
    by_cases hq : m ≤ mid
    · exact ⟨_, _, Or.inl ⟨hq, rfl, rfl⟩⟩
    · exact ⟨_, _, Or.inr ⟨by omega, rfl, rfl⟩⟩
  have enb : m > mid → ((mid + m : Nat) : Int) - (b : Int) = ((mid + m - b : Nat) : Int) := fun _ => by omega
  have hlaw : ∀ s, s0 ≤ s → s ≤ r0 → (s0 < s → key (ix D (s - 1)) ≤ key (ix D (mid + m - 1 - (s - 1)))) → (s < r0 → key (ix D (mid + m - 1 - s)) < key (ix D s)) →
      ∃ e, mid + m - s = e ∧ a ≤ s ∧ s ≤ m ∧ m ≤ e ∧ e ≤ b ∧ s ≤ mid ∧ mid ≤ e ∧ mid < b ∧ a < mid ∧ s + (e - m) = mid ∧ upd key (upd key (rotD D s m e) a mid) mid b = upd key D a b := by
    intro s p1 p2 p3 p4
    refine ⟨mid + m - s, rfl, by omega, by omega, by omega, by omega, by omega, by omega, by omega, by omega, by omega, ?_⟩
    refine symC_law D (by omega) (by omega) (by omega) (by omega) (by omega) (by omega) hX hY (fun k1 k2 => ?_) (fun k1 k2 => ?_)
    · have := p4 (by omega)
      rwa [show mid + m - 1 - s = mid + m - s - 1 by omega] at this
    · have := p3 (by omega)
      rwa [show mid + m - 1 - (s - 1) = mid + m - s by omega] at this
  have hb0 : ∀ c, s0 ≤ c → c < r0 → c < n ∧ mid + m - 1 - c < n ∧ c ≤ mid + m - 1 := by intro c p1 p2; omega
  have hs0 : s0 ≤ r0 ∧ r0 ≤ n := by omega
  (refine FunH_body tyOk Try.func48 rfl (by kernel_rfl) Try.ntmps48 (fun hcl hbd => ?_); simp only [List.length_cons, List.length_nil, Nat.reduceAdd, Nat.reduceSub, List.replicate, List.cons_append, List.nil_append])
  rcases hcase with ⟨g1, g2, g3⟩ | ⟨g1, g2, g3⟩
  · have enb' := enb
    repeat' (first
      | ((with_reducible refine hK _ _ ?_); clear hK K)
      | ((first | (with_reducible show AOp _ _ _ _ _ _ _)); simp (disch := first | ((with_reducible show liveO _ _ _ = true); first | assumption | (exact liveO_setS (by assumption)) | (exact PtL.live (by assumption)) | (exact PtL.liveA (by assumption) _) | (simp only [go_sem]; done)) | omega | assumption | rfl | (simp only [go_sem]; first | done | omega)) only [go_sem, reduceIte, reduceCtorEq, Nat.reduceAdd, Nat.reduceMul, Nat.reduceSub, Nat.reduceLeDiff, Nat.lt_irrefl, Nat.reduceLT, Nat.reduceEqDiff, Nat.reduceBEq, Int.reduceLE, Int.reduceLT, Int.reduceToNat, w64, eq_self, hA, hB, hme, enn, epp, enb])
      | (with_reducible refine AW_seq (fun K hK => ?_))
      | (with_reducible refine AW_region tyOk ?_)
      | (with_reducible refine AOps_cons (fun K hK => ?_))
      | ((with_reducible refine AOps_nil ?_); try simp only [thenA, blockA, if_true, if_false, reduceIte, Nat.reduceEqDiff, reduceCtorEq])
      | (with_reducible refine AW_block ?_)
      | ((first | (with_reducible refine AW_ret ?_) | (with_reducible refine AW_skip ?_) | (with_reducible refine AW_exit ?_)); try simp only [thenA, blockA, if_true, if_false, reduceIte, Nat.reduceEqDiff, reduceCtorEq])
      | ((with_reducible show AW _ _ (.cond _ _ _) _ _ _); refine AW_cond rfl (fun hg => ?_) (fun hg => ?_) <;> first | (exfalso; simp only [reduceCtorEq] at hg; done) | ((try simp only [Bool.not_eq_true', Bool.not_eq_false', decide_eq_true_eq, decide_eq_false_iff_not] at hg); try (exfalso; omega)))
      | ((with_reducible show _ ∧ _); refine And.intro (fun hg => ?_) (fun hg => ?_) <;> (try simp only [Bool.not_eq_true', Bool.not_eq_false'] at hg) <;> simp only [hg] <;> (try simp only [decide_eq_true_eq, decide_eq_false_iff_not] at hg) <;> (try (exfalso; omega)))
      | (clear hK K)
      | fail)
    refine AW_loopV [20, 21, 23, 149, 150, 151, 152, 153, 154, 155, 156, 157, 158, 159, 160, 161, 162, 163, 164, 165, 166, 167, 168, 169, 170, 171, 172, 173, 174] (fun q : Nat × Nat => [(20, .int .i64 (q.1 : Nat)), (21, .int .i64 (q.2 : Nat))]) (fun _ => H.set id ⟨ver, false, el, 2, fl F D⟩) (fun q => s0 ≤ q.1 ∧ q.1 ≤ q.2 ∧ q.2 ≤ r0 ∧ (s0 < q.1 → key (ix D (q.1 - 1)) ≤ key (ix D (mid + m - 1 - (q.1 - 1)))) ∧ (q.2 < r0 → key (ix D (mid + m - 1 - q.2)) < key (ix D q.2))) (fun q => q.2 - q.1) (s0, r0) ⟨Nat.le_refl _, by simp only; omega, Nat.le_refl _, by simp, by simp⟩ ?_ hHs ?_
    · simp only [junkAll, setAll, List.foldl_cons, List.foldl_nil, List.set_cons_succ, List.set_cons_zero, JL, true_or, or_true, and_true, true_and, reduceCtorEq, false_or, or_false, LV.int.injEq, LV.bool.injEq, LV.flt.injEq, LV.sl.injEq, LV.ptr.injEq, eq_self, Int.natCast_add, Int.natCast_one, Int.natCast_zero, Int.ofNat_zero]; exact ⟨by omega, by omega⟩
    · intro ⟨s, r⟩ ⟨q1, q2, q3, q4, q5⟩ K hK
      simp only at q1 q2 q3 q4 q5
      simp only [junkAll, setAll, List.foldl_cons, List.foldl_nil, List.set_cons_succ, List.set_cons_zero]
      by_cases hij : s < r
      · obtain ⟨c, hcd⟩ : ∃ c, (s + r) / 2 = c := ⟨_, rfl⟩
        have c1 : s ≤ c ∧ c < r := by omega
        have hme2 := mid_eq s r (by omega) (by omega)
        rw [hcd] at hme2
        obtain ⟨b1, b2, b3⟩ := hb0 c (by omega) (by omega)
        have epc : ((mid + m - 1 : Nat) : Int) - (c : Int) = ((mid + m - 1 - c : Nat) : Int) := by omega
        by_cases hcf : cf (ix D (mid + m - 1 - c)) (ix D c) < 0
        · have hk := (hc.neg _ _).1 hcf
          repeat' (first
            | ((with_reducible refine hK _ _ ?_); clear hK K)
            | ((with_reducible refine hK _ ?_); clear hK K; try simp only [])
            | ((first | (with_reducible show AOp _ _ _ _ _ _ _) | (with_reducible show AQOp _ _ _ _ _ _ _)); simp (disch := first | ((with_reducible show liveO _ _ _ = true); first | assumption | (exact liveO_setS (by assumption)) | (exact PtL.live (by assumption)) | (exact PtL.liveA (by assumption) _) | (simp only [go_sem]; done)) | omega | assumption | rfl | (simp only [go_sem]; first | done | omega)) only [go_sem, reduceIte, reduceCtorEq, Nat.reduceAdd, Nat.reduceMul, Nat.reduceSub, Nat.reduceLeDiff, Nat.lt_irrefl, Nat.reduceLT, Nat.reduceEqDiff, Nat.reduceBEq, Int.reduceLE, Int.reduceLT, Int.reduceToNat, w64, eq_self, hgetsW hc.len hid, hme2, epc, hc.len, hc.cells])
            | (with_reducible refine AW_seq (fun K hK => ?_))
            | (with_reducible refine AW_region tyOk ?_)
            | ((with_reducible refine AW_quiet (id := 35) tyOk ?_ ?_ ?_); (kernel_rfl); (kernel_rfl))
            | (with_reducible refine AOps_cons (fun K hK => ?_))
            | (with_reducible refine AQOps_cons (fun K hK => ?_))
            | ((with_reducible refine AQOps_nil ?_); try simp only [thenA, blockA, if_true, if_false, reduceIte, Nat.reduceEqDiff, reduceCtorEq])
            | ((with_reducible refine AOps_nil ?_); try simp only [thenA, blockA, if_true, if_false, reduceIte, Nat.reduceEqDiff, reduceCtorEq])
            | (with_reducible refine AW_block ?_)
            | ((first | (with_reducible refine AW_ret ?_) | (with_reducible refine AW_skip ?_) | (with_reducible refine AW_exit ?_)); try simp only [thenA, blockA, if_true, if_false, reduceIte, Nat.reduceEqDiff, reduceCtorEq])
            | ((with_reducible show AW _ _ (.cond _ _ _) _ _ _); refine AW_cond rfl (fun hg => ?_) (fun hg => ?_) <;> first | (exfalso; simp only [reduceCtorEq] at hg; done) | ((try simp only [Bool.not_eq_true', Bool.not_eq_false', decide_eq_true_eq, decide_eq_false_iff_not] at hg); try (exfalso; omega)))
            | ((with_reducible show _ ∧ _); refine And.intro (fun hg => ?_) (fun hg => ?_) <;> (try simp only [Bool.not_eq_true', Bool.not_eq_false'] at hg) <;> simp only [hg] <;> (try simp only [decide_eq_true_eq, decide_eq_false_iff_not] at hg) <;> (try (exfalso; omega)))
            | ((first | (with_reducible apply FunH_intro) | (with_reducible apply AQ_intro)); (first | exact hc.call _ _ _))
            | (clear hK K)
            | fail)
          refine hK _ _ (s, c) ⟨q1, by simp only; omega, by simp only; omega, q4, fun _ => hk⟩ (by simp only; omega) ?_ rfl
          simp only [junkAll, setAll, List.foldl_cons, List.foldl_nil, List.set_cons_succ, List.set_cons_zero, JL, true_or, or_true, and_true, true_and, reduceCtorEq, false_or, or_false, LV.int.injEq, LV.bool.injEq, LV.flt.injEq, LV.sl.injEq, LV.ptr.injEq, eq_self, Int.natCast_add, Int.natCast_one, Int.natCast_zero, Int.ofNat_zero]
        · have hk : key (ix D c) ≤ key (ix D (mid + m - 1 - c)) := by have := mt (hc.neg _ _).2 hcf; omega
          repeat' (first
            | ((with_reducible refine hK _ _ ?_); clear hK K)
            | ((with_reducible refine hK _ ?_); clear hK K; try simp only [])
            | ((first | (with_reducible show AOp _ _ _ _ _ _ _) | (with_reducible show AQOp _ _ _ _ _ _ _)); simp (disch := first | ((with_reducible show liveO _ _ _ = true); first | assumption | (exact liveO_setS (by assumption)) | (exact PtL.live (by assumption)) | (exact PtL.liveA (by assumption) _) | (simp only [go_sem]; done)) | omega | assumption | rfl | (simp only [go_sem]; first | done | omega)) only [go_sem, reduceIte, reduceCtorEq, Nat.reduceAdd, Nat.reduceMul, Nat.reduceSub, Nat.reduceLeDiff, Nat.lt_irrefl, Nat.reduceLT, Nat.reduceEqDiff, Nat.reduceBEq, Int.reduceLE, Int.reduceLT, Int.reduceToNat, w64, eq_self, hgetsW hc.len hid, hme2, epc, hc.len, hc.cells])
            | (with_reducible refine AW_seq (fun K hK => ?_))
            | (with_reducible refine AW_region tyOk ?_)
            | ((with_reducible refine AW_quiet (id := 35) tyOk ?_ ?_ ?_); (kernel_rfl); (kernel_rfl))
            | (with_reducible refine AOps_cons (fun K hK => ?_))
            | (with_reducible refine AQOps_cons (fun K hK => ?_))
            | ((with_reducible refine AQOps_nil ?_); try simp only [thenA, blockA, if_true, if_false, reduceIte, Nat.reduceEqDiff, reduceCtorEq])
            | ((with_reducible refine AOps_nil ?_); try simp only [thenA, blockA, if_true, if_false, reduceIte, Nat.reduceEqDiff, reduceCtorEq])
            | (with_reducible refine AW_block ?_)
            | ((first | (with_reducible refine AW_ret ?_) | (with_reducible refine AW_skip ?_) | (with_reducible refine AW_exit ?_)); try simp only [thenA, blockA, if_true, if_false, reduceIte, Nat.reduceEqDiff, reduceCtorEq])
            | ((with_reducible show AW _ _ (.cond _ _ _) _ _ _); refine AW_cond rfl (fun hg => ?_) (fun hg => ?_) <;> first | (exfalso; simp only [reduceCtorEq] at hg; done) | ((try simp only [Bool.not_eq_true', Bool.not_eq_false', decide_eq_true_eq, decide_eq_false_iff_not] at hg); try (exfalso; omega)))
            | ((with_reducible show _ ∧ _); refine And.intro (fun hg => ?_) (fun hg => ?_) <;> (try simp only [Bool.not_eq_true', Bool.not_eq_false'] at hg) <;> simp only [hg] <;> (try simp only [decide_eq_true_eq, decide_eq_false_iff_not] at hg) <;> (try (exfalso; omega)))
            | ((first | (with_reducible apply FunH_intro) | (with_reducible apply AQ_intro)); (first | exact hc.call _ _ _))
            | (clear hK K)
            | fail)
          refine hK _ _ (c + 1, r) ⟨by simp only; omega, by simp only; omega, q3, fun _ => hk, q5⟩ (by simp only; omega) ?_ rfl
          simp only [junkAll, setAll, List.foldl_cons, List.foldl_nil, List.set_cons_succ, List.set_cons_zero, JL, true_or, or_true, and_true, true_and, reduceCtorEq, false_or, or_false, LV.int.injEq, LV.bool.injEq, LV.flt.injEq, LV.sl.injEq, LV.ptr.injEq, eq_self, Int.natCast_add, Int.natCast_one, Int.natCast_zero, Int.ofNat_zero]
      · have esr : s = r := by omega
        subst esr
        obtain ⟨e, he, j1, j2, j3, j4, j5, j6, j7, j8, j9, j10⟩ := hlaw s q1 q3 q4 q5
        have eend : ((mid + m : Nat) : Int) - (s : Int) = ((e : Nat) : Int) := by omega
        have hD : D.take s ++ rg D s m ++ rg D m e ++ D.drop e = D := by rw [List.append_assoc (D.take s), ← rg_split D j2 j3, rg_all D (by omega)]
        have lD1 := rot_len (D := D) j2 j3 (by omega : e ≤ D.length)
        have w1 := rot_rg1 (D := D) (a := a) j1 j2 j3 (by omega)
        have w2 := rot_rg2 (D := D) j9 j2 j3 (by omega)
        have w3 := rot_rg3 (D := D) j9 j2 j3 (by omega)
        have w4 := rot_rg4 (D := D) (b := b) j2 j3 j4 (by omega)
        have aX1 : Asc key (rg D a s) := asc_rg (by omega) fun i i1 i2 => rg_asc (by omega) hX i1 (by omega) (by omega)
        have aX2 : Asc key (rg D s m) := asc_rg (by omega) fun i i1 i2 => rg_asc (by omega) hX (by omega) (by omega) (by omega)
        have aY1 : Asc key (rg D m e) := asc_rg (by omega) fun i i1 i2 => rg_asc (by omega) hY (by omega) (by omega) (by omega)
        have aY2 : Asc key (rg D e b) := asc_rg (by omega) fun i i1 i2 => rg_asc (by omega) hY (by omega) (by omega) (by omega)
        have hsame := rot_same D j2 j3
        change ¬ (s < m ∧ m < e) → rotD D s m e = D at hsame
        have k1 : (s < m ∧ m < e ∧ FunH Try.prog 53 [.sl id ver 0 n none, .int .i64 (s : Nat), .int .i64 (m : Nat), .int .i64 (e : Nat), .fn g caps] (H.set id ⟨ver, false, el, 2, fl F D⟩) fun r H' => r = .tup [] ∧ H' = H.set id ⟨ver, false, el, 2, fl F (rotD D s m e)⟩) ∨ (¬ (s < m ∧ m < e) ∧ rotD D s m e = D) := by
          by_cases hq : s < m ∧ m < e
          · refine Or.inl ⟨hq.1, hq.2, (rotateW_c hc id ver el n s m e (D.take s) (rg D s m) (rg D m e) (D.drop e) _ ?_ ?_ ?_ ?_ ?_ ?_ ?_ hm).mono fun r H' hh => ⟨hh.1, by rw [hh.2, List.set_set]; rfl⟩⟩
            · rw [hD]; simp [hid]
            · rw [rg_len (by omega), rg_len (by omega)]; simp; omega
            · simp; omega
            · rw [rg_len (by omega)]; simp; omega
            · rw [rg_len (by omega), rg_len (by omega)]; simp; omega
            · rw [rg_len (by omega)]; omega
            · rw [rg_len (by omega)]; omega
          · exact Or.inr ⟨hq, hsame hq⟩
        obtain ⟨D1, hD1⟩ : ∃ D1, rotD D s m e = D1 := ⟨_, rfl⟩
        rw [hD1] at lD1 w1 w2 w3 w4 k1 j10
        have k2 : (a < s ∧ s < mid ∧ FunH Try.prog 48 [.sl id ver 0 n none, .int .i64 (a : Nat), .int .i64 (s : Nat), .int .i64 (mid : Nat), .fn g caps] (H.set id ⟨ver, false, el, 2, fl F D1⟩) fun r H' => r = .tup [] ∧ H' = H.set id ⟨ver, false, el, 2, fl F (upd key D1 a mid)⟩) ∨ (¬ (a < s ∧ s < mid) ∧ upd key D1 a mid = D1) := by
          by_cases hq : a < s ∧ s < mid
          · exact Or.inl ⟨hq.1, hq.2, (ih id ver el n a s mid D1 _ (by simp [hid]) (by omega) hq.1 hq.2 (by omega) hm (by omega) (by rw [w1]; exact aX1) (by rw [w2]; exact aY1)).mono fun r H' hh => ⟨hh.1, by rw [hh.2, List.set_set]⟩⟩
          · refine Or.inr ⟨hq, upd_asc_same D1 (by omega) ?_⟩
            by_cases hq2 : a < s
            · have : s = mid := by omega
              rw [← this, w1]; exact aX1
            · have : a = s := by omega
              rw [this, w2]; exact aY1
        have lD2 := upd_len (key := key) (D := D1) (a := a) (b := mid) (by omega) (by omega)
        have v3 : Asc key (rg (upd key D1 a mid) mid e) := asc_upd_hi (by omega) (Nat.le_refl _) (by omega) (by omega) (by rw [w3]; exact aX2)
        have v4 : Asc key (rg (upd key D1 a mid) e b) := asc_upd_hi (by omega) (by omega) (by omega) (by omega) (by rw [w4]; exact aY2)
        obtain ⟨D2, hD2⟩ : ∃ D2, upd key D1 a mid = D2 := ⟨_, rfl⟩
        rw [hD2] at lD2 v3 v4 k2 j10
        have k3 : (mid < e ∧ e < b ∧ FunH Try.prog 48 [.sl id ver 0 n none, .int .i64 (mid : Nat), .int .i64 (e : Nat), .int .i64 (b : Nat), .fn g caps] (H.set id ⟨ver, false, el, 2, fl F D2⟩) fun r H' => r = .tup [] ∧ H' = H.set id ⟨ver, false, el, 2, fl F (upd key D2 mid b)⟩) ∨ (¬ (mid < e ∧ e < b) ∧ upd key D2 mid b = D2) := by
          by_cases hq : mid < e ∧ e < b
          · exact Or.inl ⟨hq.1, hq.2, (ih id ver el n mid e b D2 _ (by simp [hid]) (by omega) hq.1 hq.2 (by omega) hm (by omega) v3 v4).mono fun r H' hh => ⟨hh.1, by rw [hh.2, List.set_set]⟩⟩
          · refine Or.inr ⟨hq, upd_asc_same D2 (by omega) ?_⟩
            by_cases hq2 : mid < e
            · have : e = b := by omega
              rw [← this]; exact v3
            · have : mid = e := by omega
              rw [this]; exact v4
        rw [j10] at k3
        clear w1 w2 w3 w4 v3 v4 aX1 aX2 aY1 aY2 hsame hlaw hb0 hX hY ih
        rcases k1 with ⟨u1, u2, c1⟩ | ⟨u1, c1⟩
        · rcases k2 with ⟨u3, u4, c2⟩ | ⟨u3, c2⟩
          · rcases k3 with ⟨u5, u6, c3⟩ | ⟨u5, c3⟩
            · repeat' (first
                | ((with_reducible refine hK _ _ ?_); clear hK K)
                | ((first | (with_reducible show AOp _ _ _ _ _ _ _)); simp (disch := first | ((with_reducible show liveO _ _ _ = true); first | assumption | (exact liveO_setS (by assumption)) | (exact PtL.live (by assumption)) | (exact PtL.liveA (by assumption) _) | (simp only [go_sem]; done)) | omega | assumption | rfl | (simp only [go_sem]; first | done | omega)) only [go_sem, reduceIte, reduceCtorEq, Nat.reduceAdd, Nat.reduceMul, Nat.reduceSub, Nat.reduceLeDiff, Nat.lt_irrefl, Nat.reduceLT, Nat.reduceEqDiff, Nat.reduceBEq, Int.reduceLE, Int.reduceLT, Int.reduceToNat, w64, eq_self, eend])
                | (with_reducible refine AW_seq (fun K hK => ?_))
                | (with_reducible refine AW_region tyOk ?_)
                | (with_reducible refine AOps_cons (fun K hK => ?_))
                | ((with_reducible refine AOps_nil ?_); try simp only [thenA, blockA, if_true, if_false, reduceIte, Nat.reduceEqDiff, reduceCtorEq])
                | (with_reducible refine AW_block ?_)
                | ((first | (with_reducible refine AW_ret ?_) | (with_reducible refine AW_skip ?_) | (with_reducible refine AW_exit ?_)); try simp only [thenA, blockA, if_true, if_false, reduceIte, Nat.reduceEqDiff, reduceCtorEq])
                | ((with_reducible show AW _ _ (.cond _ _ _) _ _ _); refine AW_cond rfl (fun hg => ?_) (fun hg => ?_) <;> first | (exfalso; simp only [reduceCtorEq] at hg; done) | ((try simp only [Bool.not_eq_true', Bool.not_eq_false', decide_eq_true_eq, decide_eq_false_iff_not] at hg); try (exfalso; omega)))
                | ((with_reducible show _ ∧ _); refine And.intro (fun hg => ?_) (fun hg => ?_) <;> (try simp only [Bool.not_eq_true', Bool.not_eq_false'] at hg) <;> simp only [hg] <;> (try simp only [decide_eq_true_eq, decide_eq_false_iff_not] at hg) <;> (try (exfalso; omega)))
                | ((with_reducible apply FunH_intro); (first | exact c1 | exact c2 | exact c3))
                | (clear hK K)
                | fail)
              all_goals (first | refine EndA_cut hcl (by first | exact Or.inr rfl | exact Or.inl rfl) (by simp only [Try.results48, resA, aresL, go_sem, reduceIte, reduceCtorEq, Nat.reduceAdd, Nat.reduceMul, Nat.reduceSub, Nat.reduceLeDiff, Nat.lt_irrefl, Nat.reduceLT, Nat.reduceEqDiff, Nat.reduceBEq, Int.reduceLE, Int.reduceLT, Int.reduceToNat, w64, eq_self] <;> rfl) rfl ?_ | refine EndA_same (by first | exact Or.inr rfl | exact Or.inl rfl) (by simp only [Try.results48, resA, aresL, go_sem, reduceIte, reduceCtorEq, Nat.reduceAdd, Nat.reduceMul, Nat.reduceSub, Nat.reduceLeDiff, Nat.lt_irrefl, Nat.reduceLT, Nat.reduceEqDiff, Nat.reduceBEq, Int.reduceLE, Int.reduceLT, Int.reduceToNat, w64, eq_self] <;> rfl) ?_)
              all_goals exact ⟨rfl, rfl⟩
            · repeat' (first
                | ((with_reducible refine hK _ _ ?_); clear hK K)
                | ((first | (with_reducible show AOp _ _ _ _ _ _ _)); simp (disch := first | ((with_reducible show liveO _ _ _ = true); first | assumption | (exact liveO_setS (by assumption)) | (exact PtL.live (by assumption)) | (exact PtL.liveA (by assumption) _) | (simp only [go_sem]; done)) | omega | assumption | rfl | (simp only [go_sem]; first | done | omega)) only [go_sem, reduceIte, reduceCtorEq, Nat.reduceAdd, Nat.reduceMul, Nat.reduceSub, Nat.reduceLeDiff, Nat.lt_irrefl, Nat.reduceLT, Nat.reduceEqDiff, Nat.reduceBEq, Int.reduceLE, Int.reduceLT, Int.reduceToNat, w64, eq_self, eend])
                | (with_reducible refine AW_seq (fun K hK => ?_))
                | (with_reducible refine AW_region tyOk ?_)
                | (with_reducible refine AOps_cons (fun K hK => ?_))
                | ((with_reducible refine AOps_nil ?_); try simp only [thenA, blockA, if_true, if_false, reduceIte, Nat.reduceEqDiff, reduceCtorEq])
                | (with_reducible refine AW_block ?_)
                | ((first | (with_reducible refine AW_ret ?_) | (with_reducible refine AW_skip ?_) | (with_reducible refine AW_exit ?_)); try simp only [thenA, blockA, if_true, if_false, reduceIte, Nat.reduceEqDiff, reduceCtorEq])
                | ((with_reducible show AW _ _ (.cond _ _ _) _ _ _); refine AW_cond rfl (fun hg => ?_) (fun hg => ?_) <;> first | (exfalso; simp only [reduceCtorEq] at hg; done) | ((try simp only [Bool.not_eq_true', Bool.not_eq_false', decide_eq_true_eq, decide_eq_false_iff_not] at hg); try (exfalso; omega)))
                | ((with_reducible show _ ∧ _); refine And.intro (fun hg => ?_) (fun hg => ?_) <;> (try simp only [Bool.not_eq_true', Bool.not_eq_false'] at hg) <;> simp only [hg] <;> (try simp only [decide_eq_true_eq, decide_eq_false_iff_not] at hg) <;> (try (exfalso; omega)))
                | ((with_reducible apply FunH_intro); (first | exact c1 | exact c2))
                | (clear hK K)
                | fail)
              all_goals (first | refine EndA_cut hcl (by first | exact Or.inr rfl | exact Or.inl rfl) (by simp only [Try.results48, resA, aresL, go_sem, reduceIte, reduceCtorEq, Nat.reduceAdd, Nat.reduceMul, Nat.reduceSub, Nat.reduceLeDiff, Nat.lt_irrefl, Nat.reduceLT, Nat.reduceEqDiff, Nat.reduceBEq, Int.reduceLE, Int.reduceLT, Int.reduceToNat, w64, eq_self] <;> rfl) rfl ?_ | refine EndA_same (by first | exact Or.inr rfl | exact Or.inl rfl) (by simp only [Try.results48, resA, aresL, go_sem, reduceIte, reduceCtorEq, Nat.reduceAdd, Nat.reduceMul, Nat.reduceSub, Nat.reduceLeDiff, Nat.lt_irrefl, Nat.reduceLT, Nat.reduceEqDiff, Nat.reduceBEq, Int.reduceLE, Int.reduceLT, Int.reduceToNat, w64, eq_self] <;> rfl) ?_)
              all_goals exact ⟨rfl, by rw [c3]⟩
          · rcases k3 with ⟨u5, u6, c3⟩ | ⟨u5, c3⟩
            · rw [c2] at c3
              repeat' (first
                | ((with_reducible refine hK _ _ ?_); clear hK K)
                | ((first | (with_reducible show AOp _ _ _ _ _ _ _)); simp (disch := first | ((with_reducible show liveO _ _ _ = true); first | assumption | (exact liveO_setS (by assumption)) | (exact PtL.live (by assumption)) | (exact PtL.liveA (by assumption) _) | (simp only [go_sem]; done)) | omega | assumption | rfl | (simp only [go_sem]; first | done | omega)) only [go_sem, reduceIte, reduceCtorEq, Nat.reduceAdd, Nat.reduceMul, Nat.reduceSub, Nat.reduceLeDiff, Nat.lt_irrefl, Nat.reduceLT, Nat.reduceEqDiff, Nat.reduceBEq, Int.reduceLE, Int.reduceLT, Int.reduceToNat, w64, eq_self, eend])
                | (with_reducible refine AW_seq (fun K hK => ?_))
                | (with_reducible refine AW_region tyOk ?_)
                | (with_reducible refine AOps_cons (fun K hK => ?_))
                | ((with_reducible refine AOps_nil ?_); try simp only [thenA, blockA, if_true, if_false, reduceIte, Nat.reduceEqDiff, reduceCtorEq])
                | (with_reducible refine AW_block ?_)
                | ((first | (with_reducible refine AW_ret ?_) | (with_reducible refine AW_skip ?_) | (with_reducible refine AW_exit ?_)); try simp only [thenA, blockA, if_true, if_false, reduceIte, Nat.reduceEqDiff, reduceCtorEq])
                | ((with_reducible show AW _ _ (.cond _ _ _) _ _ _); refine AW_cond rfl (fun hg => ?_) (fun hg => ?_) <;> first | (exfalso; simp only [reduceCtorEq] at hg; done) | ((try simp only [Bool.not_eq_true', Bool.not_eq_false', decide_eq_true_eq, decide_eq_false_iff_not] at hg); try (exfalso; omega)))
                | ((with_reducible show _ ∧ _); refine And.intro (fun hg => ?_) (fun hg => ?_) <;> (try simp only [Bool.not_eq_true', Bool.not_eq_false'] at hg) <;> simp only [hg] <;> (try simp only [decide_eq_true_eq, decide_eq_false_iff_not] at hg) <;> (try (exfalso; omega)))
                | ((with_reducible apply FunH_intro); (first | exact c1 | exact c3))
                | (clear hK K)
                | fail)
              all_goals (first | refine EndA_cut hcl (by first | exact Or.inr rfl | exact Or.inl rfl) (by simp only [Try.results48, resA, aresL, go_sem, reduceIte, reduceCtorEq, Nat.reduceAdd, Nat.reduceMul, Nat.reduceSub, Nat.reduceLeDiff, Nat.lt_irrefl, Nat.reduceLT, Nat.reduceEqDiff, Nat.reduceBEq, Int.reduceLE, Int.reduceLT, Int.reduceToNat, w64, eq_self] <;> rfl) rfl ?_ | refine EndA_same (by first | exact Or.inr rfl | exact Or.inl rfl) (by simp only [Try.results48, resA, aresL, go_sem, reduceIte, reduceCtorEq, Nat.reduceAdd, Nat.reduceMul, Nat.reduceSub, Nat.reduceLeDiff, Nat.lt_irrefl, Nat.reduceLT, Nat.reduceEqDiff, Nat.reduceBEq, Int.reduceLE, Int.reduceLT, Int.reduceToNat, w64, eq_self] <;> rfl) ?_)
              all_goals exact ⟨rfl, rfl⟩
            · repeat' (first
                | ((with_reducible refine hK _ _ ?_); clear hK K)
                | ((first | (with_reducible show AOp _ _ _ _ _ _ _)); simp (disch := first | ((with_reducible show liveO _ _ _ = true); first | assumption | (exact liveO_setS (by assumption)) | (exact PtL.live (by assumption)) | (exact PtL.liveA (by assumption) _) | (simp only [go_sem]; done)) | omega | assumption | rfl | (simp only [go_sem]; first | done | omega)) only [go_sem, reduceIte, reduceCtorEq, Nat.reduceAdd, Nat.reduceMul, Nat.reduceSub, Nat.reduceLeDiff, Nat.lt_irrefl, Nat.reduceLT, Nat.reduceEqDiff, Nat.reduceBEq, Int.reduceLE, Int.reduceLT, Int.reduceToNat, w64, eq_self, eend])
                | (with_reducible refine AW_seq (fun K hK => ?_))
                | (with_reducible refine AW_region tyOk ?_)
                | (with_reducible refine AOps_cons (fun K hK => ?_))
                | ((with_reducible refine AOps_nil ?_); try simp only [thenA, blockA, if_true, if_false, reduceIte, Nat.reduceEqDiff, reduceCtorEq])
                | (with_reducible refine AW_block ?_)
                | ((first | (with_reducible refine AW_ret ?_) | (with_reducible refine AW_skip ?_) | (with_reducible refine AW_exit ?_)); try simp only [thenA, blockA, if_true, if_false, reduceIte, Nat.reduceEqDiff, reduceCtorEq])
                | ((with_reducible show AW _ _ (.cond _ _ _) _ _ _); refine AW_cond rfl (fun hg => ?_) (fun hg => ?_) <;> first | (exfalso; simp only [reduceCtorEq] at hg; done) | ((try simp only [Bool.not_eq_true', Bool.not_eq_false', decide_eq_true_eq, decide_eq_false_iff_not] at hg); try (exfalso; omega)))
                | ((with_reducible show _ ∧ _); refine And.intro (fun hg => ?_) (fun hg => ?_) <;> (try simp only [Bool.not_eq_true', Bool.not_eq_false'] at hg) <;> simp only [hg] <;> (try simp only [decide_eq_true_eq, decide_eq_false_iff_not] at hg) <;> (try (exfalso; omega)))
                | ((with_reducible apply FunH_intro); (first | exact c1))
                | (clear hK K)
                | fail)
              all_goals (first | refine EndA_cut hcl (by first | exact Or.inr rfl | exact Or.inl rfl) (by simp only [Try.results48, resA, aresL, go_sem, reduceIte, reduceCtorEq, Nat.reduceAdd, Nat.reduceMul, Nat.reduceSub, Nat.reduceLeDiff, Nat.lt_irrefl, Nat.reduceLT, Nat.reduceEqDiff, Nat.reduceBEq, Int.reduceLE, Int.reduceLT, Int.reduceToNat, w64, eq_self] <;> rfl) rfl ?_ | refine EndA_same (by first | exact Or.inr rfl | exact Or.inl rfl) (by simp only [Try.results48, resA, aresL, go_sem, reduceIte, reduceCtorEq, Nat.reduceAdd, Nat.reduceMul, Nat.reduceSub, Nat.reduceLeDiff, Nat.lt_irrefl, Nat.reduceLT, Nat.reduceEqDiff, Nat.reduceBEq, Int.reduceLE, Int.reduceLT, Int.reduceToNat, w64, eq_self] <;> rfl) ?_)
              all_goals exact ⟨rfl, by rw [c3, c2]⟩
        · rw [c1] at k2 hD2
          rcases k2 with ⟨u3, u4, c2⟩ | ⟨u3, c2⟩
          · rcases k3 with ⟨u5, u6, c3⟩ | ⟨u5, c3⟩
            · repeat' (first
                | ((with_reducible refine hK _ _ ?_); clear hK K)
                | ((first | (with_reducible show AOp _ _ _ _ _ _ _)); simp (disch := first | ((with_reducible show liveO _ _ _ = true); first | assumption | (exact liveO_setS (by assumption)) | (exact PtL.live (by assumption)) | (exact PtL.liveA (by assumption) _) | (simp only [go_sem]; done)) | omega | assumption | rfl | (simp only [go_sem]; first | done | omega)) only [go_sem, reduceIte, reduceCtorEq, Nat.reduceAdd, Nat.reduceMul, Nat.reduceSub, Nat.reduceLeDiff, Nat.lt_irrefl, Nat.reduceLT, Nat.reduceEqDiff, Nat.reduceBEq, Int.reduceLE, Int.reduceLT, Int.reduceToNat, w64, eq_self, eend])
                | (with_reducible refine AW_seq (fun K hK => ?_))
                | (with_reducible refine AW_region tyOk ?_)
                | (with_reducible refine AOps_cons (fun K hK => ?_))
                | ((with_reducible refine AOps_nil ?_); try simp only [thenA, blockA, if_true, if_false, reduceIte, Nat.reduceEqDiff, reduceCtorEq])
                | (with_reducible refine AW_block ?_)
                | ((first | (with_reducible refine AW_ret ?_) | (with_reducible refine AW_skip ?_) | (with_reducible refine AW_exit ?_)); try simp only [thenA, blockA, if_true, if_false, reduceIte, Nat.reduceEqDiff, reduceCtorEq])
                | ((with_reducible show AW _ _ (.cond _ _ _) _ _ _); refine AW_cond rfl (fun hg => ?_) (fun hg => ?_) <;> first | (exfalso; simp only [reduceCtorEq] at hg; done) | ((try simp only [Bool.not_eq_true', Bool.not_eq_false', decide_eq_true_eq, decide_eq_false_iff_not] at hg); try (exfalso; omega)))
                | ((with_reducible show _ ∧ _); refine And.intro (fun hg => ?_) (fun hg => ?_) <;> (try simp only [Bool.not_eq_true', Bool.not_eq_false'] at hg) <;> simp only [hg] <;> (try simp only [decide_eq_true_eq, decide_eq_false_iff_not] at hg) <;> (try (exfalso; omega)))
                | ((with_reducible apply FunH_intro); (first | exact c2 | exact c3))
                | (clear hK K)
                | fail)
              all_goals (first | refine EndA_cut hcl (by first | exact Or.inr rfl | exact Or.inl rfl) (by simp only [Try.results48, resA, aresL, go_sem, reduceIte, reduceCtorEq, Nat.reduceAdd, Nat.reduceMul, Nat.reduceSub, Nat.reduceLeDiff, Nat.lt_irrefl, Nat.reduceLT, Nat.reduceEqDiff, Nat.reduceBEq, Int.reduceLE, Int.reduceLT, Int.reduceToNat, w64, eq_self] <;> rfl) rfl ?_ | refine EndA_same (by first | exact Or.inr rfl | exact Or.inl rfl) (by simp only [Try.results48, resA, aresL, go_sem, reduceIte, reduceCtorEq, Nat.reduceAdd, Nat.reduceMul, Nat.reduceSub, Nat.reduceLeDiff, Nat.lt_irrefl, Nat.reduceLT, Nat.reduceEqDiff, Nat.reduceBEq, Int.reduceLE, Int.reduceLT, Int.reduceToNat, w64, eq_self] <;> rfl) ?_)
              all_goals exact ⟨rfl, rfl⟩
            · repeat' (first
                | ((with_reducible refine hK _ _ ?_); clear hK K)
                | ((first | (with_reducible show AOp _ _ _ _ _ _ _)); simp (disch := first | ((with_reducible show liveO _ _ _ = true); first | assumption | (exact liveO_setS (by assumption)) | (exact PtL.live (by assumption)) | (exact PtL.liveA (by assumption) _) | (simp only [go_sem]; done)) | omega | assumption | rfl | (simp only [go_sem]; first | done | omega)) only [go_sem, reduceIte, reduceCtorEq, Nat.reduceAdd, Nat.reduceMul, Nat.reduceSub, Nat.reduceLeDiff, Nat.lt_irrefl, Nat.reduceLT, Nat.reduceEqDiff, Nat.reduceBEq, Int.reduceLE, Int.reduceLT, Int.reduceToNat, w64, eq_self, eend])
                | (with_reducible refine AW_seq (fun K hK => ?_))
                | (with_reducible refine AW_region tyOk ?_)
                | (with_reducible refine AOps_cons (fun K hK => ?_))
                | ((with_reducible refine AOps_nil ?_); try simp only [thenA, blockA, if_true, if_false, reduceIte, Nat.reduceEqDiff, reduceCtorEq])
                | (with_reducible refine AW_block ?_)
                | ((first | (with_reducible refine AW_ret ?_) | (with_reducible refine AW_skip ?_) | (with_reducible refine AW_exit ?_)); try simp only [thenA, blockA, if_true, if_false, reduceIte, Nat.reduceEqDiff, reduceCtorEq])
                | ((with_reducible show AW _ _ (.cond _ _ _) _ _ _); refine AW_cond rfl (fun hg => ?_) (fun hg => ?_) <;> first | (exfalso; simp only [reduceCtorEq] at hg; done) | ((try simp only [Bool.not_eq_true', Bool.not_eq_false', decide_eq_true_eq, decide_eq_false_iff_not] at hg); try (exfalso; omega)))
                | ((with_reducible show _ ∧ _); refine And.intro (fun hg => ?_) (fun hg => ?_) <;> (try simp only [Bool.not_eq_true', Bool.not_eq_false'] at hg) <;> simp only [hg] <;> (try simp only [decide_eq_true_eq, decide_eq_false_iff_not] at hg) <;> (try (exfalso; omega)))
                | ((with_reducible apply FunH_intro); (first | exact c2))
                | (clear hK K)
                | fail)
              all_goals (first | refine EndA_cut hcl (by first | exact Or.inr rfl | exact Or.inl rfl) (by simp only [Try.results48, resA, aresL, go_sem, reduceIte, reduceCtorEq, Nat.reduceAdd, Nat.reduceMul, Nat.reduceSub, Nat.reduceLeDiff, Nat.lt_irrefl, Nat.reduceLT, Nat.reduceEqDiff, Nat.reduceBEq, Int.reduceLE, Int.reduceLT, Int.reduceToNat, w64, eq_self] <;> rfl) rfl ?_ | refine EndA_same (by first | exact Or.inr rfl | exact Or.inl rfl) (by simp only [Try.results48, resA, aresL, go_sem, reduceIte, reduceCtorEq, Nat.reduceAdd, Nat.reduceMul, Nat.reduceSub, Nat.reduceLeDiff, Nat.lt_irrefl, Nat.reduceLT, Nat.reduceEqDiff, Nat.reduceBEq, Int.reduceLE, Int.reduceLT, Int.reduceToNat, w64, eq_self] <;> rfl) ?_)
              all_goals exact ⟨rfl, by rw [c3]⟩
          · rcases k3 with ⟨u5, u6, c3⟩ | ⟨u5, c3⟩
            · rw [c2] at c3
              repeat' (first
                | ((with_reducible refine hK _ _ ?_); clear hK K)
                | ((first | (with_reducible show AOp _ _ _ _ _ _ _)); simp (disch := first | ((with_reducible show liveO _ _ _ = true); first | assumption | (exact liveO_setS (by assumption)) | (exact PtL.live (by assumption)) | (exact PtL.liveA (by assumption) _) | (simp only [go_sem]; done)) | omega | assumption | rfl | (simp only [go_sem]; first | done | omega)) only [go_sem, reduceIte, reduceCtorEq, Nat.reduceAdd, Nat.reduceMul, Nat.reduceSub, Nat.reduceLeDiff, Nat.lt_irrefl, Nat.reduceLT, Nat.reduceEqDiff, Nat.reduceBEq, Int.reduceLE, Int.reduceLT, Int.reduceToNat, w64, eq_self, eend])
                | (with_reducible refine AW_seq (fun K hK => ?_))
                | (with_reducible refine AW_region tyOk ?_)
                | (with_reducible refine AOps_cons (fun K hK => ?_))
                | ((with_reducible refine AOps_nil ?_); try simp only [thenA, blockA, if_true, if_false, reduceIte, Nat.reduceEqDiff, reduceCtorEq])
                | (with_reducible refine AW_block ?_)
                | ((first | (with_reducible refine AW_ret ?_) | (with_reducible refine AW_skip ?_) | (with_reducible refine AW_exit ?_)); try simp only [thenA, blockA, if_true, if_false, reduceIte, Nat.reduceEqDiff, reduceCtorEq])
                | ((with_reducible show AW _ _ (.cond _ _ _) _ _ _); refine AW_cond rfl (fun hg => ?_) (fun hg => ?_) <;> first | (exfalso; simp only [reduceCtorEq] at hg; done) | ((try simp only [Bool.not_eq_true', Bool.not_eq_false', decide_eq_true_eq, decide_eq_false_iff_not] at hg); try (exfalso; omega)))
                | ((with_reducible show _ ∧ _); refine And.intro (fun hg => ?_) (fun hg => ?_) <;> (try simp only [Bool.not_eq_true', Bool.not_eq_false'] at hg) <;> simp only [hg] <;> (try simp only [decide_eq_true_eq, decide_eq_false_iff_not] at hg) <;> (try (exfalso; omega)))
                | ((with_reducible apply FunH_intro); (first | exact c3))
                | (clear hK K)
                | fail)
              all_goals (first | refine EndA_cut hcl (by first | exact Or.inr rfl | exact Or.inl rfl) (by simp only [Try.results48, resA, aresL, go_sem, reduceIte, reduceCtorEq, Nat.reduceAdd, Nat.reduceMul, Nat.reduceSub, Nat.reduceLeDiff, Nat.lt_irrefl, Nat.reduceLT, Nat.reduceEqDiff, Nat.reduceBEq, Int.reduceLE, Int.reduceLT, Int.reduceToNat, w64, eq_self] <;> rfl) rfl ?_ | refine EndA_same (by first | exact Or.inr rfl | exact Or.inl rfl) (by simp only [Try.results48, resA, aresL, go_sem, reduceIte, reduceCtorEq, Nat.reduceAdd, Nat.reduceMul, Nat.reduceSub, Nat.reduceLeDiff, Nat.lt_irrefl, Nat.reduceLT, Nat.reduceEqDiff, Nat.reduceBEq, Int.reduceLE, Int.reduceLT, Int.reduceToNat, w64, eq_self] <;> rfl) ?_)
              all_goals exact ⟨rfl, rfl⟩
            · repeat' (first
                | ((with_reducible refine hK _ _ ?_); clear hK K)
                | ((first | (with_reducible show AOp _ _ _ _ _ _ _)); simp (disch := first | ((with_reducible show liveO _ _ _ = true); first | assumption | (exact liveO_setS (by assumption)) | (exact PtL.live (by assumption)) | (exact PtL.liveA (by assumption) _) | (simp only [go_sem]; done)) | omega | assumption | rfl | (simp only [go_sem]; first | done | omega)) only [go_sem, reduceIte, reduceCtorEq, Nat.reduceAdd, Nat.reduceMul, Nat.reduceSub, Nat.reduceLeDiff, Nat.lt_irrefl, Nat.reduceLT, Nat.reduceEqDiff, Nat.reduceBEq, Int.reduceLE, Int.reduceLT, Int.reduceToNat, w64, eq_self, eend])
                | (with_reducible refine AW_seq (fun K hK => ?_))
                | (with_reducible refine AW_region tyOk ?_)
                | (with_reducible refine AOps_cons (fun K hK => ?_))
                | ((with_reducible refine AOps_nil ?_); try simp only [thenA, blockA, if_true, if_false, reduceIte, Nat.reduceEqDiff, reduceCtorEq])
                | (with_reducible refine AW_block ?_)
                | ((first | (with_reducible refine AW_ret ?_) | (with_reducible refine AW_skip ?_) | (with_reducible refine AW_exit ?_)); try simp only [thenA, blockA, if_true, if_false, reduceIte, Nat.reduceEqDiff, reduceCtorEq])
                | ((with_reducible show AW _ _ (.cond _ _ _) _ _ _); refine AW_cond rfl (fun hg => ?_) (fun hg => ?_) <;> first | (exfalso; simp only [reduceCtorEq] at hg; done) | ((try simp only [Bool.not_eq_true', Bool.not_eq_false', decide_eq_true_eq, decide_eq_false_iff_not] at hg); try (exfalso; omega)))
                | ((with_reducible show _ ∧ _); refine And.intro (fun hg => ?_) (fun hg => ?_) <;> (try simp only [Bool.not_eq_true', Bool.not_eq_false'] at hg) <;> simp only [hg] <;> (try simp only [decide_eq_true_eq, decide_eq_false_iff_not] at hg) <;> (try (exfalso; omega)))
                | (clear hK K)
                | fail)
              all_goals (first | refine EndA_cut hcl (by first | exact Or.inr rfl | exact Or.inl rfl) (by simp only [Try.results48, resA, aresL, go_sem, reduceIte, reduceCtorEq, Nat.reduceAdd, Nat.reduceMul, Nat.reduceSub, Nat.reduceLeDiff, Nat.lt_irrefl, Nat.reduceLT, Nat.reduceEqDiff, Nat.reduceBEq, Int.reduceLE, Int.reduceLT, Int.reduceToNat, w64, eq_self] <;> rfl) rfl ?_ | refine EndA_same (by first | exact Or.inr rfl | exact Or.inl rfl) (by simp only [Try.results48, resA, aresL, go_sem, reduceIte, reduceCtorEq, Nat.reduceAdd, Nat.reduceMul, Nat.reduceSub, Nat.reduceLeDiff, Nat.lt_irrefl, Nat.reduceLT, Nat.reduceEqDiff, Nat.reduceBEq, Int.reduceLE, Int.reduceLT, Int.reduceToNat, w64, eq_self] <;> rfl) ?_)
              all_goals exact ⟨rfl, by rw [c3, c2]⟩
  · have enb' := enb
    repeat' (first
      | ((with_reducible refine hK _ _ ?_); clear hK K)
      | ((first | (with_reducible show AOp _ _ _ _ _ _ _)); simp (disch := first | ((with_reducible show liveO _ _ _ = true); first | assumption | (exact liveO_setS (by assumption)) | (exact PtL.live (by assumption)) | (exact PtL.liveA (by assumption) _) | (simp only [go_sem]; done)) | omega | assumption | rfl | (simp only [go_sem]; first | done | omega)) only [go_sem, reduceIte, reduceCtorEq, Nat.reduceAdd, Nat.reduceMul, Nat.reduceSub, Nat.reduceLeDiff, Nat.lt_irrefl, Nat.reduceLT, Nat.reduceEqDiff, Nat.reduceBEq, Int.reduceLE, Int.reduceLT, Int.reduceToNat, w64, eq_self, hA, hB, hme, enn, epp, enb])
      | (with_reducible refine AW_seq (fun K hK => ?_))
      | (with_reducible refine AW_region tyOk ?_)
      | (with_reducible refine AOps_cons (fun K hK => ?_))
      | ((with_reducible refine AOps_nil ?_); try simp only [thenA, blockA, if_true, if_false, reduceIte, Nat.reduceEqDiff, reduceCtorEq])
      | (with_reducible refine AW_block ?_)
      | ((first | (with_reducible refine AW_ret ?_) | (with_reducible refine AW_skip ?_) | (with_reducible refine AW_exit ?_)); try simp only [thenA, blockA, if_true, if_false, reduceIte, Nat.reduceEqDiff, reduceCtorEq])
      | ((with_reducible show AW _ _ (.cond _ _ _) _ _ _); refine AW_cond rfl (fun hg => ?_) (fun hg => ?_) <;> first | (exfalso; simp only [reduceCtorEq] at hg; done) | ((try simp only [Bool.not_eq_true', Bool.not_eq_false', decide_eq_true_eq, decide_eq_false_iff_not] at hg); try (exfalso; omega)))
      | ((with_reducible show _ ∧ _); refine And.intro (fun hg => ?_) (fun hg => ?_) <;> (try simp only [Bool.not_eq_true', Bool.not_eq_false'] at hg) <;> simp only [hg] <;> (try simp only [decide_eq_true_eq, decide_eq_false_iff_not] at hg) <;> (try (exfalso; omega)))
      | (clear hK K)
      | fail)
    refine AW_loopV [20, 21, 23, 149, 150, 151, 152, 153, 154, 155, 156, 157, 158, 159, 160, 161, 162, 163, 164, 165, 166, 167, 168, 169, 170, 171, 172, 173, 174] (fun q : Nat × Nat => [(20, .int .i64 (q.1 : Nat)), (21, .int .i64 (q.2 : Nat))]) (fun _ => H.set id ⟨ver, false, el, 2, fl F D⟩) (fun q => s0 ≤ q.1 ∧ q.1 ≤ q.2 ∧ q.2 ≤ r0 ∧ (s0 < q.1 → key (ix D (q.1 - 1)) ≤ key (ix D (mid + m - 1 - (q.1 - 1)))) ∧ (q.2 < r0 → key (ix D (mid + m - 1 - q.2)) < key (ix D q.2))) (fun q => q.2 - q.1) (s0, r0) ⟨Nat.le_refl _, by simp only; omega, Nat.le_refl _, by simp, by simp⟩ ?_ hHs ?_
    · simp only [junkAll, setAll, List.foldl_cons, List.foldl_nil, List.set_cons_succ, List.set_cons_zero, JL, true_or, or_true, and_true, true_and, reduceCtorEq, false_or, or_false, LV.int.injEq, LV.bool.injEq, LV.flt.injEq, LV.sl.injEq, LV.ptr.injEq, eq_self, Int.natCast_add, Int.natCast_one, Int.natCast_zero, Int.ofNat_zero]; exact ⟨by omega, by omega⟩
    · intro ⟨s, r⟩ ⟨q1, q2, q3, q4, q5⟩ K hK
      simp only at q1 q2 q3 q4 q5
      simp only [junkAll, setAll, List.foldl_cons, List.foldl_nil, List.set_cons_succ, List.set_cons_zero]
      by_cases hij : s < r
      · obtain ⟨c, hcd⟩ : ∃ c, (s + r) / 2 = c := ⟨_, rfl⟩
        have c1 : s ≤ c ∧ c < r := by omega
        have hme2 := mid_eq s r (by omega) (by omega)
        rw [hcd] at hme2
        obtain ⟨b1, b2, b3⟩ := hb0 c (by omega) (by omega)
        have epc : ((mid + m - 1 : Nat) : Int) - (c : Int) = ((mid + m - 1 - c : Nat) : Int) := by omega
        by_cases hcf : cf (ix D (mid + m - 1 - c)) (ix D c) < 0
        · have hk := (hc.neg _ _).1 hcf
          repeat' (first
            | ((with_reducible refine hK _ _ ?_); clear hK K)
            | ((with_reducible refine hK _ ?_); clear hK K; try simp only [])
            | ((first | (with_reducible show AOp _ _ _ _ _ _ _) | (with_reducible show AQOp _ _ _ _ _ _ _)); simp (disch := first | ((with_reducible show liveO _ _ _ = true); first | assumption | (exact liveO_setS (by assumption)) | (exact PtL.live (by assumption)) | (exact PtL.liveA (by assumption) _) | (simp only [go_sem]; done)) | omega | assumption | rfl | (simp only [go_sem]; first | done | omega)) only [go_sem, reduceIte, reduceCtorEq, Nat.reduceAdd, Nat.reduceMul, Nat.reduceSub, Nat.reduceLeDiff, Nat.lt_irrefl, Nat.reduceLT, Nat.reduceEqDiff, Nat.reduceBEq, Int.reduceLE, Int.reduceLT, Int.reduceToNat, w64, eq_self, hgetsW hc.len hid, hme2, epc, hc.len, hc.cells])
            | (with_reducible refine AW_seq (fun K hK => ?_))
            | (with_reducible refine AW_region tyOk ?_)
            | ((with_reducible refine AW_quiet (id := 35) tyOk ?_ ?_ ?_); (kernel_rfl); (kernel_rfl))
            | (with_reducible refine AOps_cons (fun K hK => ?_))
            | (with_reducible refine AQOps_cons (fun K hK => ?_))
            | ((with_reducible refine AQOps_nil ?_); try simp only [thenA, blockA, if_true, if_false, reduceIte, Nat.reduceEqDiff, reduceCtorEq])
            | ((with_reducible refine AOps_nil ?_); try simp only [thenA, blockA, if_true, if_false, reduceIte, Nat.reduceEqDiff, reduceCtorEq])
            | (with_reducible refine AW_block ?_)
            | ((first | (with_reducible refine AW_ret ?_) | (with_reducible refine AW_skip ?_) | (with_reducible refine AW_exit ?_)); try simp only [thenA, blockA, if_true, if_false, reduceIte, Nat.reduceEqDiff, reduceCtorEq])
            | ((with_reducible show AW _ _ (.cond _ _ _) _ _ _); refine AW_cond rfl (fun hg => ?_) (fun hg => ?_) <;> first | (exfalso; simp only [reduceCtorEq] at hg; done) | ((try simp only [Bool.not_eq_true', Bool.not_eq_false', decide_eq_true_eq, decide_eq_false_iff_not] at hg); try (exfalso; omega)))
            | ((with_reducible show _ ∧ _); refine And.intro (fun hg => ?_) (fun hg => ?_) <;> (try simp only [Bool.not_eq_true', Bool.not_eq_false'] at hg) <;> simp only [hg] <;> (try simp only [decide_eq_true_eq, decide_eq_false_iff_not] at hg) <;> (try (exfalso; omega)))
            | ((first | (with_reducible apply FunH_intro) | (with_reducible apply AQ_intro)); (first | exact hc.call _ _ _))
            | (clear hK K)
            | fail)
          refine hK _ _ (s, c) ⟨q1, by simp only; omega, by simp only; omega, q4, fun _ => hk⟩ (by simp only; omega) ?_ rfl
          simp only [junkAll, setAll, List.foldl_cons, List.foldl_nil, List.set_cons_succ, List.set_cons_zero, JL, true_or, or_true, and_true, true_and, reduceCtorEq, false_or, or_false, LV.int.injEq, LV.bool.injEq, LV.flt.injEq, LV.sl.injEq, LV.ptr.injEq, eq_self, Int.natCast_add, Int.natCast_one, Int.natCast_zero, Int.ofNat_zero]
        · have hk : key (ix D c) ≤ key (ix D (mid + m - 1 - c)) := by have := mt (hc.neg _ _).2 hcf; omega
          repeat' (first
            | ((with_reducible refine hK _ _ ?_); clear hK K)
            | ((with_reducible refine hK _ ?_); clear hK K; try simp only [])
            | ((first | (with_reducible show AOp _ _ _ _ _ _ _) | (with_reducible show AQOp _ _ _ _ _ _ _)); simp (disch := first | ((with_reducible show liveO _ _ _ = true); first | assumption | (exact liveO_setS (by assumption)) | (exact PtL.live (by assumption)) | (exact PtL.liveA (by assumption) _) | (simp only [go_sem]; done)) | omega | assumption | rfl | (simp only [go_sem]; first | done | omega)) only [go_sem, reduceIte, reduceCtorEq, Nat.reduceAdd, Nat.reduceMul, Nat.reduceSub, Nat.reduceLeDiff, Nat.lt_irrefl, Nat.reduceLT, Nat.reduceEqDiff, Nat.reduceBEq, Int.reduceLE, Int.reduceLT, Int.reduceToNat, w64, eq_self, hgetsW hc.len hid, hme2, epc, hc.len, hc.cells])
            | (with_reducible refine AW_seq (fun K hK => ?_))
            | (with_reducible refine AW_region tyOk ?_)
            | ((with_reducible refine AW_quiet (id := 35) tyOk ?_ ?_ ?_); (kernel_rfl); (kernel_rfl))
            | (with_reducible refine AOps_cons (fun K hK => ?_))
            | (with_reducible refine AQOps_cons (fun K hK => ?_))
            | ((with_reducible refine AQOps_nil ?_); try simp only [thenA, blockA, if_true, if_false, reduceIte, Nat.reduceEqDiff, reduceCtorEq])
            | ((with_reducible refine AOps_nil ?_); try simp only [thenA, blockA, if_true, if_false, reduceIte, Nat.reduceEqDiff, reduceCtorEq])
            | (with_reducible refine AW_block ?_)
            | ((first | (with_reducible refine AW_ret ?_) | (with_reducible refine AW_skip ?_) | (with_reducible refine AW_exit ?_)); try simp only [thenA, blockA, if_true, if_false, reduceIte, Nat.reduceEqDiff, reduceCtorEq])
            | ((with_reducible show AW _ _ (.cond _ _ _) _ _ _); refine AW_cond rfl (fun hg => ?_) (fun hg => ?_) <;> first | (exfalso; simp only [reduceCtorEq] at hg; done) | ((try simp only [Bool.not_eq_true', Bool.not_eq_false', decide_eq_true_eq, decide_eq_false_iff_not] at hg); try (exfalso; omega)))
            | ((with_reducible show _ ∧ _); refine And.intro (fun hg => ?_) (fun hg => ?_) <;> (try simp only [Bool.not_eq_true', Bool.not_eq_false'] at hg) <;> simp only [hg] <;> (try simp only [decide_eq_true_eq, decide_eq_false_iff_not] at hg) <;> (try (exfalso; omega)))
            | ((first | (with_reducible apply FunH_intro) | (with_reducible apply AQ_intro)); (first | exact hc.call _ _ _))
            | (clear hK K)
            | fail)
          refine hK _ _ (c + 1, r) ⟨by simp only; omega, by simp only; omega, q3, fun _ => hk, q5⟩ (by simp only; omega) ?_ rfl
          simp only [junkAll, setAll, List.foldl_cons, List.foldl_nil, List.set_cons_succ, List.set_cons_zero, JL, true_or, or_true, and_true, true_and, reduceCtorEq, false_or, or_false, LV.int.injEq, LV.bool.injEq, LV.flt.injEq, LV.sl.injEq, LV.ptr.injEq, eq_self, Int.natCast_add, Int.natCast_one, Int.natCast_zero, Int.ofNat_zero]
      · have esr : s = r := by omega
        subst esr
        obtain ⟨e, he, j1, j2, j3, j4, j5, j6, j7, j8, j9, j10⟩ := hlaw s q1 q3 q4 q5
        have eend : ((mid + m : Nat) : Int) - (s : Int) = ((e : Nat) : Int) := by omega
        have hD : D.take s ++ rg D s m ++ rg D m e ++ D.drop e = D := by rw [List.append_assoc (D.take s), ← rg_split D j2 j3, rg_all D (by omega)]
        have lD1 := rot_len (D := D) j2 j3 (by omega : e ≤ D.length)
        have w1 := rot_rg1 (D := D) (a := a) j1 j2 j3 (by omega)
        have w2 := rot_rg2 (D := D) j9 j2 j3 (by omega)
        have w3 := rot_rg3 (D := D) j9 j2 j3 (by omega)
        have w4 := rot_rg4 (D := D) (b := b) j2 j3 j4 (by omega)
        have aX1 : Asc key (rg D a s) := asc_rg (by omega) fun i i1 i2 => rg_asc (by omega) hX i1 (by omega) (by omega)
        have aX2 : Asc key (rg D s m) := asc_rg (by omega) fun i i1 i2 => rg_asc (by omega) hX (by omega) (by omega) (by omega)
        have aY1 : Asc key (rg D m e) := asc_rg (by omega) fun i i1 i2 => rg_asc (by omega) hY (by omega) (by omega) (by omega)
        have aY2 : Asc key (rg D e b) := asc_rg (by omega) fun i i1 i2 => rg_asc (by omega) hY (by omega) (by omega) (by omega)
        have hsame := rot_same D j2 j3
        change ¬ (s < m ∧ m < e) → rotD D s m e = D at hsame
        have k1 : (s < m ∧ m < e ∧ FunH Try.prog 53 [.sl id ver 0 n none, .int .i64 (s : Nat), .int .i64 (m : Nat), .int .i64 (e : Nat), .fn g caps] (H.set id ⟨ver, false, el, 2, fl F D⟩) fun r H' => r = .tup [] ∧ H' = H.set id ⟨ver, false, el, 2, fl F (rotD D s m e)⟩) ∨ (¬ (s < m ∧ m < e) ∧ rotD D s m e = D) := by
          by_cases hq : s < m ∧ m < e
          · refine Or.inl ⟨hq.1, hq.2, (rotateW_c hc id ver el n s m e (D.take s) (rg D s m) (rg D m e) (D.drop e) _ ?_ ?_ ?_ ?_ ?_ ?_ ?_ hm).mono fun r H' hh => ⟨hh.1, by rw [hh.2, List.set_set]; rfl⟩⟩
            · rw [hD]; simp [hid]
            · rw [rg_len (by omega), rg_len (by omega)]; simp; omega
            · simp; omega
            · rw [rg_len (by omega)]; simp; omega
            · rw [rg_len (by omega), rg_len (by omega)]; simp; omega
            · rw [rg_len (by omega)]; omega
            · rw [rg_len (by omega)]; omega
          · exact Or.inr ⟨hq, hsame hq⟩
        obtain ⟨D1, hD1⟩ : ∃ D1, rotD D s m e = D1 := ⟨_, rfl⟩
        rw [hD1] at lD1 w1 w2 w3 w4 k1 j10
        have k2 : (a < s ∧ s < mid ∧ FunH Try.prog 48 [.sl id ver 0 n none, .int .i64 (a : Nat), .int .i64 (s : Nat), .int .i64 (mid : Nat), .fn g caps] (H.set id ⟨ver, false, el, 2, fl F D1⟩) fun r H' => r = .tup [] ∧ H' = H.set id ⟨ver, false, el, 2, fl F (upd key D1 a mid)⟩) ∨ (¬ (a < s ∧ s < mid) ∧ upd key D1 a mid = D1) := by
          by_cases hq : a < s ∧ s < mid
          · exact Or.inl ⟨hq.1, hq.2, (ih id ver el n a s mid D1 _ (by simp [hid]) (by omega) hq.1 hq.2 (by omega) hm (by omega) (by rw [w1]; exact aX1) (by rw [w2]; exact aY1)).mono fun r H' hh => ⟨hh.1, by rw [hh.2, List.set_set]⟩⟩
          · refine Or.inr ⟨hq, upd_asc_same D1 (by omega) ?_⟩
            by_cases hq2 : a < s
            · have : s = mid := by omega
              rw [← this, w1]; exact aX1
            · have : a = s := by omega
              rw [this, w2]; exact aY1
        have lD2 := upd_len (key := key) (D := D1) (a := a) (b := mid) (by omega) (by omega)
        have v3 : Asc key (rg (upd key D1 a mid) mid e) := asc_upd_hi (by omega) (Nat.le_refl _) (by omega) (by omega) (by rw [w3]; exact aX2)
        have v4 : Asc key (rg (upd key D1 a mid) e b) := asc_upd_hi (by omega) (by omega) (by omega) (by omega) (by rw [w4]; exact aY2)
        obtain ⟨D2, hD2⟩ : ∃ D2, upd key D1 a mid = D2 := ⟨_, rfl⟩
        rw [hD2] at lD2 v3 v4 k2 j10
        have k3 : (mid < e ∧ e < b ∧ FunH Try.prog 48 [.sl id ver 0 n none, .int .i64 (mid : Nat), .int .i64 (e : Nat), .int .i64 (b : Nat), .fn g caps] (H.set id ⟨ver, false, el, 2, fl F D2⟩) fun r H' => r = .tup [] ∧ H' = H.set id ⟨ver, false, el, 2, fl F (upd key D2 mid b)⟩) ∨ (¬ (mid < e ∧ e < b) ∧ upd key D2 mid b = D2) := by
          by_cases hq : mid < e ∧ e < b
          · exact Or.inl ⟨hq.1, hq.2, (ih id ver el n mid e b D2 _ (by simp [hid]) (by omega) hq.1 hq.2 (by omega) hm (by omega) v3 v4).mono fun r H' hh => ⟨hh.1, by rw [hh.2, List.set_set]⟩⟩
          · refine Or.inr ⟨hq, upd_asc_same D2 (by omega) ?_⟩
            by_cases hq2 : mid < e
            · have : e = b := by omega
              rw [← this]; exact v3
            · have : mid = e := by omega
              rw [this]; exact v4
        rw [j10] at k3
        clear w1 w2 w3 w4 v3 v4 aX1 aX2 aY1 aY2 hsame hlaw hb0 hX hY ih
        rcases k1 with ⟨u1, u2, c1⟩ | ⟨u1, c1⟩
        · rcases k2 with ⟨u3, u4, c2⟩ | ⟨u3, c2⟩
          · rcases k3 with ⟨u5, u6, c3⟩ | ⟨u5, c3⟩
            · repeat' (first
                | ((with_reducible refine hK _ _ ?_); clear hK K)
                | ((first | (with_reducible show AOp _ _ _ _ _ _ _)); simp (disch := first | ((with_reducible show liveO _ _ _ = true); first | assumption | (exact liveO_setS (by assumption)) | (exact PtL.live (by assumption)) | (exact PtL.liveA (by assumption) _) | (simp only [go_sem]; done)) | omega | assumption | rfl | (simp only [go_sem]; first | done | omega)) only [go_sem, reduceIte, reduceCtorEq, Nat.reduceAdd, Nat.reduceMul, Nat.reduceSub, Nat.reduceLeDiff, Nat.lt_irrefl, Nat.reduceLT, Nat.reduceEqDiff, Nat.reduceBEq, Int.reduceLE, Int.reduceLT, Int.reduceToNat, w64, eq_self, eend])
                | (with_reducible refine AW_seq (fun K hK => ?_))
                | (with_reducible refine AW_region tyOk ?_)
                | (with_reducible refine AOps_cons (fun K hK => ?_))
                | ((with_reducible refine AOps_nil ?_); try simp only [thenA, blockA, if_true, if_false, reduceIte, Nat.reduceEqDiff, reduceCtorEq])
                | (with_reducible refine AW_block ?_)
                | ((first | (with_reducible refine AW_ret ?_) | (with_reducible refine AW_skip ?_) | (with_reducible refine AW_exit ?_)); try simp only [thenA, blockA, if_true, if_false, reduceIte, Nat.reduceEqDiff, reduceCtorEq])
                | ((with_reducible show AW _ _ (.cond _ _ _) _ _ _); refine AW_cond rfl (fun hg => ?_) (fun hg => ?_) <;> first | (exfalso; simp only [reduceCtorEq] at hg; done) | ((try simp only [Bool.not_eq_true', Bool.not_eq_false', decide_eq_true_eq, decide_eq_false_iff_not] at hg); try (exfalso; omega)))
                | ((with_reducible show _ ∧ _); refine And.intro (fun hg => ?_) (fun hg => ?_) <;> (try simp only [Bool.not_eq_true', Bool.not_eq_false'] at hg) <;> simp only [hg] <;> (try simp only [decide_eq_true_eq, decide_eq_false_iff_not] at hg) <;> (try (exfalso; omega)))
                | ((with_reducible apply FunH_intro); (first | exact c1 | exact c2 | exact c3))
                | (clear hK K)
                | fail)
              all_goals (first | refine EndA_cut hcl (by first | exact Or.inr rfl | exact Or.inl rfl) (by simp only [Try.results48, resA, aresL, go_sem, reduceIte, reduceCtorEq, Nat.reduceAdd, Nat.reduceMul, Nat.reduceSub, Nat.reduceLeDiff, Nat.lt_irrefl, Nat.reduceLT, Nat.reduceEqDiff, Nat.reduceBEq, Int.reduceLE, Int.reduceLT, Int.reduceToNat, w64, eq_self] <;> rfl) rfl ?_ | refine EndA_same (by first | exact Or.inr rfl | exact Or.inl rfl) (by simp only [Try.results48, resA, aresL, go_sem, reduceIte, reduceCtorEq, Nat.reduceAdd, Nat.reduceMul, Nat.reduceSub, Nat.reduceLeDiff, Nat.lt_irrefl, Nat.reduceLT, Nat.reduceEqDiff, Nat.reduceBEq, Int.reduceLE, Int.reduceLT, Int.reduceToNat, w64, eq_self] <;> rfl) ?_)
              all_goals exact ⟨rfl, rfl⟩
            · repeat' (first
                | ((with_reducible refine hK _ _ ?_); clear hK K)
                | ((first | (with_reducible show AOp _ _ _ _ _ _ _)); simp (disch := first | ((with_reducible show liveO _ _ _ = true); first | assumption | (exact liveO_setS (by assumption)) | (exact PtL.live (by assumption)) | (exact PtL.liveA (by assumption) _) | (simp only [go_sem]; done)) | omega | assumption | rfl | (simp only [go_sem]; first | done | omega)) only [go_sem, reduceIte, reduceCtorEq, Nat.reduceAdd, Nat.reduceMul, Nat.reduceSub, Nat.reduceLeDiff, Nat.lt_irrefl, Nat.reduceLT, Nat.reduceEqDiff, Nat.reduceBEq, Int.reduceLE, Int.reduceLT, Int.reduceToNat, w64, eq_self, eend])
                | (with_reducible refine AW_seq (fun K hK => ?_))
                | (with_reducible refine AW_region tyOk ?_)
                | (with_reducible refine AOps_cons (fun K hK => ?_))
                | ((with_reducible refine AOps_nil ?_); try simp only [thenA, blockA, if_true, if_false, reduceIte, Nat.reduceEqDiff, reduceCtorEq])
                | (with_reducible refine AW_block ?_)
                | ((first | (with_reducible refine AW_ret ?_) | (with_reducible refine AW_skip ?_) | (with_reducible refine AW_exit ?_)); try simp only [thenA, blockA, if_true, if_false, reduceIte, Nat.reduceEqDiff, reduceCtorEq])
                | ((with_reducible show AW _ _ (.cond _ _ _) _ _ _); refine AW_cond rfl (fun hg => ?_) (fun hg => ?_) <;> first | (exfalso; simp only [reduceCtorEq] at hg; done) | ((try simp only [Bool.not_eq_true', Bool.not_eq_false', decide_eq_true_eq, decide_eq_false_iff_not] at hg); try (exfalso; omega)))
                | ((with_reducible show _ ∧ _); refine And.intro (fun hg => ?_) (fun hg => ?_) <;> (try simp only [Bool.not_eq_true', Bool.not_eq_false'] at hg) <;> simp only [hg] <;> (try simp only [decide_eq_true_eq, decide_eq_false_iff_not] at hg) <;> (try (exfalso; omega)))
                | ((with_reducible apply FunH_intro); (first | exact c1 | exact c2))
                | (clear hK K)
                | fail)
              all_goals (first | refine EndA_cut hcl (by first | exact Or.inr rfl | exact Or.inl rfl) (by simp only [Try.results48, resA, aresL, go_sem, reduceIte, reduceCtorEq, Nat.reduceAdd, Nat.reduceMul, Nat.reduceSub, Nat.reduceLeDiff, Nat.lt_irrefl, Nat.reduceLT, Nat.reduceEqDiff, Nat.reduceBEq, Int.reduceLE, Int.reduceLT, Int.reduceToNat, w64, eq_self] <;> rfl) rfl ?_ | refine EndA_same (by first | exact Or.inr rfl | exact Or.inl rfl) (by simp only [Try.results48, resA, aresL, go_sem, reduceIte, reduceCtorEq, Nat.reduceAdd, Nat.reduceMul, Nat.reduceSub, Nat.reduceLeDiff, Nat.lt_irrefl, Nat.reduceLT, Nat.reduceEqDiff, Nat.reduceBEq, Int.reduceLE, Int.reduceLT, Int.reduceToNat, w64, eq_self] <;> rfl) ?_)
              all_goals exact ⟨rfl, by rw [c3]⟩
          · rcases k3 with ⟨u5, u6, c3⟩ | ⟨u5, c3⟩
            · rw [c2] at c3
              repeat' (first
                | ((with_reducible refine hK _ _ ?_); clear hK K)
                | ((first | (with_reducible show AOp _ _ _ _ _ _ _)); simp (disch := first | ((with_reducible show liveO _ _ _ = true); first | assumption | (exact liveO_setS (by assumption)) | (exact PtL.live (by assumption)) | (exact PtL.liveA (by assumption) _) | (simp only [go_sem]; done)) | omega | assumption | rfl | (simp only [go_sem]; first | done | omega)) only [go_sem, reduceIte, reduceCtorEq, Nat.reduceAdd, Nat.reduceMul, Nat.reduceSub, Nat.reduceLeDiff, Nat.lt_irrefl, Nat.reduceLT, Nat.reduceEqDiff, Nat.reduceBEq, Int.reduceLE, Int.reduceLT, Int.reduceToNat, w64, eq_self, eend])
                | (with_reducible refine AW_seq (fun K hK => ?_))
                | (with_reducible refine AW_region tyOk ?_)
                | (with_reducible refine AOps_cons (fun K hK => ?_))
                | ((with_reducible refine AOps_nil ?_); try simp only [thenA, blockA, if_true, if_false, reduceIte, Nat.reduceEqDiff, reduceCtorEq])
                | (with_reducible refine AW_block ?_)
                | ((first | (with_reducible refine AW_ret ?_) | (with_reducible refine AW_skip ?_) | (with_reducible refine AW_exit ?_)); try simp only [thenA, blockA, if_true, if_false, reduceIte, Nat.reduceEqDiff, reduceCtorEq])
                | ((with_reducible show AW _ _ (.cond _ _ _) _ _ _); refine AW_cond rfl (fun hg => ?_) (fun hg => ?_) <;> first | (exfalso; simp only [reduceCtorEq] at hg; done) | ((try simp only [Bool.not_eq_true', Bool.not_eq_false', decide_eq_true_eq, decide_eq_false_iff_not] at hg); try (exfalso; omega)))
                | ((with_reducible show _ ∧ _); refine And.intro (fun hg => ?_) (fun hg => ?_) <;> (try simp only [Bool.not_eq_true', Bool.not_eq_false'] at hg) <;> simp only [hg] <;> (try simp only [decide_eq_true_eq, decide_eq_false_iff_not] at hg) <;> (try (exfalso; omega)))
                | ((with_reducible apply FunH_intro); (first | exact c1 | exact c3))
                | (clear hK K)
                | fail)
              all_goals (first | refine EndA_cut hcl (by first | exact Or.inr rfl | exact Or.inl rfl) (by simp only [Try.results48, resA, aresL, go_sem, reduceIte, reduceCtorEq, Nat.reduceAdd, Nat.reduceMul, Nat.reduceSub, Nat.reduceLeDiff, Nat.lt_irrefl, Nat.reduceLT, Nat.reduceEqDiff, Nat.reduceBEq, Int.reduceLE, Int.reduceLT, Int.reduceToNat, w64, eq_self] <;> rfl) rfl ?_ | refine EndA_same (by first | exact Or.inr rfl | exact Or.inl rfl) (by simp only [Try.results48, resA, aresL, go_sem, reduceIte, reduceCtorEq, Nat.reduceAdd, Nat.reduceMul, Nat.reduceSub, Nat.reduceLeDiff, Nat.lt_irrefl, Nat.reduceLT, Nat.reduceEqDiff, Nat.reduceBEq, Int.reduceLE, Int.reduceLT, Int.reduceToNat, w64, eq_self] <;> rfl) ?_)
              all_goals exact ⟨rfl, rfl⟩
            · repeat' (first
                | ((with_reducible refine hK _ _ ?_); clear hK K)
                | ((first | (with_reducible show AOp _ _ _ _ _ _ _)); simp (disch := first | ((with_reducible show liveO _ _ _ = true); first | assumption | (exact liveO_setS (by assumption)) | (exact PtL.live (by assumption)) | (exact PtL.liveA (by assumption) _) | (simp only [go_sem]; done)) | omega | assumption | rfl | (simp only [go_sem]; first | done | omega)) only [go_sem, reduceIte, reduceCtorEq, Nat.reduceAdd, Nat.reduceMul, Nat.reduceSub, Nat.reduceLeDiff, Nat.lt_irrefl, Nat.reduceLT, Nat.reduceEqDiff, Nat.reduceBEq, Int.reduceLE, Int.reduceLT, Int.reduceToNat, w64, eq_self, eend])
                | (with_reducible refine AW_seq (fun K hK => ?_))
                | (with_reducible refine AW_region tyOk ?_)
                | (with_reducible refine AOps_cons (fun K hK => ?_))
                | ((with_reducible refine AOps_nil ?_); try simp only [thenA, blockA, if_true, if_false, reduceIte, Nat.reduceEqDiff, reduceCtorEq])
                | (with_reducible refine AW_block ?_)
                | ((first | (with_reducible refine AW_ret ?_) | (with_reducible refine AW_skip ?_) | (with_reducible refine AW_exit ?_)); try simp only [thenA, blockA, if_true, if_false, reduceIte, Nat.reduceEqDiff, reduceCtorEq])
                | ((with_reducible show AW _ _ (.cond _ _ _) _ _ _); refine AW_cond rfl (fun hg => ?_) (fun hg => ?_) <;> first | (exfalso; simp only [reduceCtorEq] at hg; done) | ((try simp only [Bool.not_eq_true', Bool.not_eq_false', decide_eq_true_eq, decide_eq_false_iff_not] at hg); try (exfalso; omega)))
                | ((with_reducible show _ ∧ _); refine And.intro (fun hg => ?_) (fun hg => ?_) <;> (try simp only [Bool.not_eq_true', Bool.not_eq_false'] at hg) <;> simp only [hg] <;> (try simp only [decide_eq_true_eq, decide_eq_false_iff_not] at hg) <;> (try (exfalso; omega)))
                | ((with_reducible apply FunH_intro); (first | exact c1))
                | (clear hK K)
                | fail)
              all_goals (first | refine EndA_cut hcl (by first | exact Or.inr rfl | exact Or.inl rfl) (by simp only [Try.results48, resA, aresL, go_sem, reduceIte, reduceCtorEq, Nat.reduceAdd, Nat.reduceMul, Nat.reduceSub, Nat.reduceLeDiff, Nat.lt_irrefl, Nat.reduceLT, Nat.reduceEqDiff, Nat.reduceBEq, Int.reduceLE, Int.reduceLT, Int.reduceToNat, w64, eq_self] <;> rfl) rfl ?_ | refine EndA_same (by first | exact Or.inr rfl | exact Or.inl rfl) (by simp only [Try.results48, resA, aresL, go_sem, reduceIte, reduceCtorEq, Nat.reduceAdd, Nat.reduceMul, Nat.reduceSub, Nat.reduceLeDiff, Nat.lt_irrefl, Nat.reduceLT, Nat.reduceEqDiff, Nat.reduceBEq, Int.reduceLE, Int.reduceLT, Int.reduceToNat, w64, eq_self] <;> rfl) ?_)
              all_goals exact ⟨rfl, by rw [c3, c2]⟩
        · rw [c1] at k2 hD2
          rcases k2 with ⟨u3, u4, c2⟩ | ⟨u3, c2⟩
          · rcases k3 with ⟨u5, u6, c3⟩ | ⟨u5, c3⟩
            · repeat' (first
                | ((with_reducible refine hK _ _ ?_); clear hK K)
                | ((first | (with_reducible show AOp _ _ _ _ _ _ _)); simp (disch := first | ((with_reducible show liveO _ _ _ = true); first | assumption | (exact liveO_setS (by assumption)) | (exact PtL.live (by assumption)) | (exact PtL.liveA (by assumption) _) | (simp only [go_sem]; done)) | omega | assumption | rfl | (simp only [go_sem]; first | done | omega)) only [go_sem, reduceIte, reduceCtorEq, Nat.reduceAdd, Nat.reduceMul, Nat.reduceSub, Nat.reduceLeDiff, Nat.lt_irrefl, Nat.reduceLT, Nat.reduceEqDiff, Nat.reduceBEq, Int.reduceLE, Int.reduceLT, Int.reduceToNat, w64, eq_self, eend])
                | (with_reducible refine AW_seq (fun K hK => ?_))
                | (with_reducible refine AW_region tyOk ?_)
                | (with_reducible refine AOps_cons (fun K hK => ?_))
                | ((with_reducible refine AOps_nil ?_); try simp only [thenA, blockA, if_true, if_false, reduceIte, Nat.reduceEqDiff, reduceCtorEq])
                | (with_reducible refine AW_block ?_)
                | ((first | (with_reducible refine AW_ret ?_) | (with_reducible refine AW_skip ?_) | (with_reducible refine AW_exit ?_)); try simp only [thenA, blockA, if_true, if_false, reduceIte, Nat.reduceEqDiff, reduceCtorEq])
                | ((with_reducible show AW _ _ (.cond _ _ _) _ _ _); refine AW_cond rfl (fun hg => ?_) (fun hg => ?_) <;> first | (exfalso; simp only [reduceCtorEq] at hg; done) | ((try simp only [Bool.not_eq_true', Bool.not_eq_false', decide_eq_true_eq, decide_eq_false_iff_not] at hg); try (exfalso; omega)))
                | ((with_reducible show _ ∧ _); refine And.intro (fun hg => ?_) (fun hg => ?_) <;> (try simp only [Bool.not_eq_true', Bool.not_eq_false'] at hg) <;> simp only [hg] <;> (try simp only [decide_eq_true_eq, decide_eq_false_iff_not] at hg) <;> (try (exfalso; omega)))
                | ((with_reducible apply FunH_intro); (first | exact c2 | exact c3))
                | (clear hK K)
                | fail)
              all_goals (first | refine EndA_cut hcl (by first | exact Or.inr rfl | exact Or.inl rfl) (by simp only [Try.results48, resA, aresL, go_sem, reduceIte, reduceCtorEq, Nat.reduceAdd, Nat.reduceMul, Nat.reduceSub, Nat.reduceLeDiff, Nat.lt_irrefl, Nat.reduceLT, Nat.reduceEqDiff, Nat.reduceBEq, Int.reduceLE, Int.reduceLT, Int.reduceToNat, w64, eq_self] <;> rfl) rfl ?_ | refine EndA_same (by first | exact Or.inr rfl | exact Or.inl rfl) (by simp only [Try.results48, resA, aresL, go_sem, reduceIte, reduceCtorEq, Nat.reduceAdd, Nat.reduceMul, Nat.reduceSub, Nat.reduceLeDiff, Nat.lt_irrefl, Nat.reduceLT, Nat.reduceEqDiff, Nat.reduceBEq, Int.reduceLE, Int.reduceLT, Int.reduceToNat, w64, eq_self] <;> rfl) ?_)
              all_goals exact ⟨rfl, rfl⟩
            · repeat' (first
                | ((with_reducible refine hK _ _ ?_); clear hK K)
                | ((first | (with_reducible show AOp _ _ _ _ _ _ _)); simp (disch := first | ((with_reducible show liveO _ _ _ = true); first | assumption | (exact liveO_setS (by assumption)) | (exact PtL.live (by assumption)) | (exact PtL.liveA (by assumption) _) | (simp only [go_sem]; done)) | omega | assumption | rfl | (simp only [go_sem]; first | done | omega)) only [go_sem, reduceIte, reduceCtorEq, Nat.reduceAdd, Nat.reduceMul, Nat.reduceSub, Nat.reduceLeDiff, Nat.lt_irrefl, Nat.reduceLT, Nat.reduceEqDiff, Nat.reduceBEq, Int.reduceLE, Int.reduceLT, Int.reduceToNat, w64, eq_self, eend])
                | (with_reducible refine AW_seq (fun K hK => ?_))
                | (with_reducible refine AW_region tyOk ?_)
                | (with_reducible refine AOps_cons (fun K hK => ?_))
                | ((with_reducible refine AOps_nil ?_); try simp only [thenA, blockA, if_true, if_false, reduceIte, Nat.reduceEqDiff, reduceCtorEq])
                | (with_reducible refine AW_block ?_)
                | ((first | (with_reducible refine AW_ret ?_) | (with_reducible refine AW_skip ?_) | (with_reducible refine AW_exit ?_)); try simp only [thenA, blockA, if_true, if_false, reduceIte, Nat.reduceEqDiff, reduceCtorEq])
                | ((with_reducible show AW _ _ (.cond _ _ _) _ _ _); refine AW_cond rfl (fun hg => ?_) (fun hg => ?_) <;> first | (exfalso; simp only [reduceCtorEq] at hg; done) | ((try simp only [Bool.not_eq_true', Bool.not_eq_false', decide_eq_true_eq, decide_eq_false_iff_not] at hg); try (exfalso; omega)))
                | ((with_reducible show _ ∧ _); refine And.intro (fun hg => ?_) (fun hg => ?_) <;> (try simp only [Bool.not_eq_true', Bool.not_eq_false'] at hg) <;> simp only [hg] <;> (try simp only [decide_eq_true_eq, decide_eq_false_iff_not] at hg) <;> (try (exfalso; omega)))
                | ((with_reducible apply FunH_intro); (first | exact c2))
                | (clear hK K)
                | fail)
              all_goals (first | refine EndA_cut hcl (by first | exact Or.inr rfl | exact Or.inl rfl) (by simp only [Try.results48, resA, aresL, go_sem, reduceIte, reduceCtorEq, Nat.reduceAdd, Nat.reduceMul, Nat.reduceSub, Nat.reduceLeDiff, Nat.lt_irrefl, Nat.reduceLT, Nat.reduceEqDiff, Nat.reduceBEq, Int.reduceLE, Int.reduceLT, Int.reduceToNat, w64, eq_self] <;> rfl) rfl ?_ | refine EndA_same (by first | exact Or.inr rfl | exact Or.inl rfl) (by simp only [Try.results48, resA, aresL, go_sem, reduceIte, reduceCtorEq, Nat.reduceAdd, Nat.reduceMul, Nat.reduceSub, Nat.reduceLeDiff, Nat.lt_irrefl, Nat.reduceLT, Nat.reduceEqDiff, Nat.reduceBEq, Int.reduceLE, Int.reduceLT, Int.reduceToNat, w64, eq_self] <;> rfl) ?_)
              all_goals exact ⟨rfl, by rw [c3]⟩
          · rcases k3 with ⟨u5, u6, c3⟩ | ⟨u5, c3⟩
            · rw [c2] at c3
              repeat' (first
                | ((with_reducible refine hK _ _ ?_); clear hK K)
                | ((first | (with_reducible show AOp _ _ _ _ _ _ _)); simp (disch := first | ((with_reducible show liveO _ _ _ = true); first | assumption | (exact liveO_setS (by assumption)) | (exact PtL.live (by assumption)) | (exact PtL.liveA (by assumption) _) | (simp only [go_sem]; done)) | omega | assumption | rfl | (simp only [go_sem]; first | done | omega)) only [go_sem, reduceIte, reduceCtorEq, Nat.reduceAdd, Nat.reduceMul, Nat.reduceSub, Nat.reduceLeDiff, Nat.lt_irrefl, Nat.reduceLT, Nat.reduceEqDiff, Nat.reduceBEq, Int.reduceLE, Int.reduceLT, Int.reduceToNat, w64, eq_self, eend])
                | (with_reducible refine AW_seq (fun K hK => ?_))
                | (with_reducible refine AW_region tyOk ?_)
                | (with_reducible refine AOps_cons (fun K hK => ?_))
                | ((with_reducible refine AOps_nil ?_); try simp only [thenA, blockA, if_true, if_false, reduceIte, Nat.reduceEqDiff, reduceCtorEq])
                | (with_reducible refine AW_block ?_)
                | ((first | (with_reducible refine AW_ret ?_) | (with_reducible refine AW_skip ?_) | (with_reducible refine AW_exit ?_)); try simp only [thenA, blockA, if_true, if_false, reduceIte, Nat.reduceEqDiff, reduceCtorEq])
                | ((with_reducible show AW _ _ (.cond _ _ _) _ _ _); refine AW_cond rfl (fun hg => ?_) (fun hg => ?_) <;> first | (exfalso; simp only [reduceCtorEq] at hg; done) | ((try simp only [Bool.not_eq_true', Bool.not_eq_false', decide_eq_true_eq, decide_eq_false_iff_not] at hg); try (exfalso; omega)))
                | ((with_reducible show _ ∧ _); refine And.intro (fun hg => ?_) (fun hg => ?_) <;> (try simp only [Bool.not_eq_true', Bool.not_eq_false'] at hg) <;> simp only [hg] <;> (try simp only [decide_eq_true_eq, decide_eq_false_iff_not] at hg) <;> (try (exfalso; omega)))
                | ((with_reducible apply FunH_intro); (first | exact c3))
                | (clear hK K)
                | fail)
              all_goals (first | refine EndA_cut hcl (by first | exact Or.inr rfl | exact Or.inl rfl) (by simp only [Try.results48, resA, aresL, go_sem, reduceIte, reduceCtorEq, Nat.reduceAdd, Nat.reduceMul, Nat.reduceSub, Nat.reduceLeDiff, Nat.lt_irrefl, Nat.reduceLT, Nat.reduceEqDiff, Nat.reduceBEq, Int.reduceLE, Int.reduceLT, Int.reduceToNat, w64, eq_self] <;> rfl) rfl ?_ | refine EndA_same (by first | exact Or.inr rfl | exact Or.inl rfl) (by simp only [Try.results48, resA, aresL, go_sem, reduceIte, reduceCtorEq, Nat.reduceAdd, Nat.reduceMul, Nat.reduceSub, Nat.reduceLeDiff, Nat.lt_irrefl, Nat.reduceLT, Nat.reduceEqDiff, Nat.reduceBEq, Int.reduceLE, Int.reduceLT, Int.reduceToNat, w64, eq_self] <;> rfl) ?_)
              all_goals exact ⟨rfl, rfl⟩
            · repeat' (first
                | ((with_reducible refine hK _ _ ?_); clear hK K)
                | ((first | (with_reducible show AOp _ _ _ _ _ _ _)); simp (disch := first | ((with_reducible show liveO _ _ _ = true); first | assumption | (exact liveO_setS (by assumption)) | (exact PtL.live (by assumption)) | (exact PtL.liveA (by assumption) _) | (simp only [go_sem]; done)) | omega | assumption | rfl | (simp only [go_sem]; first | done | omega)) only [go_sem, reduceIte, reduceCtorEq, Nat.reduceAdd, Nat.reduceMul, Nat.reduceSub, Nat.reduceLeDiff, Nat.lt_irrefl, Nat.reduceLT, Nat.reduceEqDiff, Nat.reduceBEq, Int.reduceLE, Int.reduceLT, Int.reduceToNat, w64, eq_self, eend])
                | (with_reducible refine AW_seq (fun K hK => ?_))
                | (with_reducible refine AW_region tyOk ?_)
                | (with_reducible refine AOps_cons (fun K hK => ?_))
                | ((with_reducible refine AOps_nil ?_); try simp only [thenA, blockA, if_true, if_false, reduceIte, Nat.reduceEqDiff, reduceCtorEq])
                | (with_reducible refine AW_block ?_)
                | ((first | (with_reducible refine AW_ret ?_) | (with_reducible refine AW_skip ?_) | (with_reducible refine AW_exit ?_)); try simp only [thenA, blockA, if_true, if_false, reduceIte, Nat.reduceEqDiff, reduceCtorEq])
                | ((with_reducible show AW _ _ (.cond _ _ _) _ _ _); refine AW_cond rfl (fun hg => ?_) (fun hg => ?_) <;> first | (exfalso; simp only [reduceCtorEq] at hg; done) | ((try simp only [Bool.not_eq_true', Bool.not_eq_false', decide_eq_true_eq, decide_eq_false_iff_not] at hg); try (exfalso; omega)))
                | ((with_reducible show _ ∧ _); refine And.intro (fun hg => ?_) (fun hg => ?_) <;> (try simp only [Bool.not_eq_true', Bool.not_eq_false'] at hg) <;> simp only [hg] <;> (try simp only [decide_eq_true_eq, decide_eq_false_iff_not] at hg) <;> (try (exfalso; omega)))
                | (clear hK K)
                | fail)
              all_goals (first | refine EndA_cut hcl (by first | exact Or.inr rfl | exact Or.inl rfl) (by simp only [Try.results48, resA, aresL, go_sem, reduceIte, reduceCtorEq, Nat.reduceAdd, Nat.reduceMul, Nat.reduceSub, Nat.reduceLeDiff, Nat.lt_irrefl, Nat.reduceLT, Nat.reduceEqDiff, Nat.reduceBEq, Int.reduceLE, Int.reduceLT, Int.reduceToNat, w64, eq_self] <;> rfl) rfl ?_ | refine EndA_same (by first | exact Or.inr rfl | exact Or.inl rfl) (by simp only [Try.results48, resA, aresL, go_sem, reduceIte, reduceCtorEq, Nat.reduceAdd, Nat.reduceMul, Nat.reduceSub, Nat.reduceLeDiff, Nat.lt_irrefl, Nat.reduceLT, Nat.reduceEqDiff, Nat.reduceBEq, Int.reduceLE, Int.reduceLT, Int.reduceToNat, w64, eq_self] <;> rfl) ?_)
              all_goals exact ⟨rfl, by rw [c3, c2]⟩
theorem symCW_all {α : Type} [Inhabited α] {F : α → List LV} {cf : α → α → Int} {key : α → Int} {g : FuncId} {caps : List LV} (hc : CmpW F cf key g caps) : ∀ N, symCW F key g caps N
  | 0 => by
    intro id ver el n a m b D H h hn h1 h2 h3 hm hN hX hY
    omega
  | N + 1 => by
    intro id ver el n a m b D H h hn h1 h2 h3 hm hN hX hY
    by_cases e1 : m = a + 1
    · exact symAW hc id ver el n a m b D H h hn e1 h2 h3 hm hY
    · by_cases e2 : b = m + 1
      · exact symBW hc id ver el n a m b D H h hn (by omega) e2 h3 hm hX
      · exact symCW_step hc N (symCW_all hc N) id ver el n a m b D H h hn (by omega) (by omega) h3 hm hN hX hY
end Go.Proofs.Yteejnmgjjefbiaa
