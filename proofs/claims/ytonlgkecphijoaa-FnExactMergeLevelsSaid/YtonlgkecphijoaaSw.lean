/- Lists in ascending order, in the abstract machine. -/
import Derived.Test.YtonlgkecphijoaaSv
import Derived.Test.YtonlgkecphijoaaZn
import Derived.Test.YtonlgkecphijoaaFg
import Derived.Test.YtonlgkecphijoaaCb
import Derived.Test.YtonlgkecphijoaaSwa
namespace Go.Proofs.Ytonlgkecphijoaa
open Go.RowKit
set_option linter.unusedSimpArgs false
set_option linter.unusedVariables false
set_option maxRecDepth 100000

theorem cmpN_ok : CmpOk Fw (fun a b => cmpF (some a) (some b)) kW 47 [] where
  call x y H := compareNumbers_c (some x) (some y) H
  neg x y := by
    have := cmpF_lt (some x) (some y)
    unfold ltF at this
    rw [kW_lt, decide_eq_decide] at this
    exact this
  cell := Fw_cell
  cells := Fw_cells
theorem sorted_c (lv : LV) (ws : List Nat) (H : Hp) (h : RdL H lv (ws.map Fw)) (hn : ws.length ≤ 1048576) :
    FunH Try.prog 38 [lv] H fun r H' => r = .sl H.length 0 0 ws.length none ∧ H' = H ++ [⟨0, false, 25, 1, (srt kW ws).map Fw⟩] := by
  have hclo := (Clone_float32_c lv (ws.map some) H (by rw [Fw_map]; exact h) (by simp; omega)).mono (Q' := fun r H' => r = .sl H.length 0 0 ws.length none ∧ H' = H ++ [⟨0, false, 25, 1, ws.map Fw⟩]) fun r H' hh => by rw [Fw_map, List.length_map] at hh; exact hh
  have hst := (SortStable_float32_c cmpN_ok H.length 0 25 ws.length ws (H ++ [⟨0, false, 25, 1, ws.map Fw⟩]) (by simp) rfl hn).mono (Q' := fun r H' => r = .tup [] ∧ H' = H ++ [⟨0, false, 25, 1, (srt kW ws).map Fw⟩]) fun r H' hh => ⟨hh.1, by rw [hh.2]; simp⟩
  have hl : (srt kW ws).length = ws.length := srt_len
  (refine FunH_body tyOk Try.func38 rfl (by kernel_rfl) Try.ntmps38 (fun hcl hbd => ?_); simp only [List.length_cons, List.length_nil, Nat.reduceAdd, Nat.reduceSub, List.replicate, List.cons_append, List.nil_append])
  repeat' (first
    | ((with_reducible refine hK _ _ ?_); clear hK K)
    | ((first | (with_reducible show AOp _ _ _ _ _ _ _)); simp (disch := first | ((with_reducible show liveO _ _ _ = true); first | assumption | (exact liveO_setS (by assumption)) | (exact PtL.live (by assumption)) | (exact PtL.liveA (by assumption) _) | (simp only [go_sem]; done)) | omega | assumption | rfl | (simp only [go_sem]; first | done | omega)) only [go_sem, reduceIte, reduceCtorEq, Nat.reduceAdd, Nat.reduceMul, Nat.reduceSub, Nat.reduceLeDiff, Nat.lt_irrefl, Nat.reduceLT, Nat.reduceEqDiff, Nat.reduceBEq, Int.reduceLE, Int.reduceLT, Int.reduceToNat, w64, eq_self])
    | (with_reducible refine AW_seq (fun K hK => ?_))
    | (with_reducible refine AW_region tyOk ?_)
    | (with_reducible refine AOps_cons (fun K hK => ?_))
    | ((with_reducible refine AOps_nil ?_); try simp only [thenA, blockA, if_true, if_false, reduceIte, Nat.reduceEqDiff, reduceCtorEq])
    | (with_reducible refine AW_block ?_)
    | ((first | (with_reducible refine AW_ret ?_) | (with_reducible refine AW_skip ?_) | (with_reducible refine AW_exit ?_)); try simp only [thenA, blockA, if_true, if_false, reduceIte, Nat.reduceEqDiff, reduceCtorEq])
    | ((with_reducible show AW _ _ (.cond _ _ _) _ _ _); refine AW_cond rfl (fun hg => ?_) (fun hg => ?_) <;> first | (exfalso; simp only [reduceCtorEq] at hg; done) | ((try simp only [Bool.not_eq_true', Bool.not_eq_false', decide_eq_true_eq, decide_eq_false_iff_not] at hg); try (exfalso; omega)))
    | ((with_reducible show _ ∧ _); refine And.intro (fun hg => ?_) (fun hg => ?_) <;> (try simp only [Bool.not_eq_true', Bool.not_eq_false'] at hg) <;> simp only [hg] <;> (try simp only [decide_eq_true_eq, decide_eq_false_iff_not] at hg) <;> (try (exfalso; omega)))
    | ((with_reducible apply FunH_intro); (first | exact hclo | exact hst | exact Clone_float32_c _ _ _ (by first | assumption | exact RdL.app (by assumption) _ | exact RdL_hj rfl (by simp) | exact RdL_h0 rfl (by simp) | exact RdL_nil | exact RdL_emp) (by first | assumption | omega | (simp; omega) | (simp; done)) | exact SortStable_float32_c _ _ _ _ _ _ _ (by first | assumption | exact (hp_getj _ _ _).trans rfl | exact (hp_get0 _ _).trans rfl) (by first | rfl | assumption | omega | (simp; done)) (by first | assumption | omega | (simp; omega) | (simp; done)) | exact compareNumbers_c _ _ _))
    | (clear hK K)
    | fail)
  simp only [← Fw_map]
  refine EndA_rows [some 0] hcl (by first | exact Or.inr rfl | exact Or.inl rfl) (by simp only [Try.results38, resA, aresL, go_sem, reduceIte, reduceCtorEq, Nat.reduceAdd, Nat.reduceMul, Nat.reduceSub, Nat.reduceLeDiff, Nat.lt_irrefl, Nat.reduceLT, Nat.reduceEqDiff, Nat.reduceBEq, Int.reduceLE, Int.reduceLT, Int.reduceToNat, w64, eq_self] <;> rfl) (by decide) ?_ ?_ ⟨rfl, rfl⟩
  rotate_left
  · repeat' (first | exact trivial | apply TdT.tup | apply TdT.one | apply TdL.agg | apply TdL.cell | exact TdB.old _ trivial rfl | exact TdB.own 0 0 _ _ _ _ rfl _ rfl rfl | exact TdB.junk _ | exact TdB.old _ (by assumption) (by assumption) | refine And.intro ?_ ?_)
  all_goals (repeat' (first | (with_reducible exact RowOk.none) | ((with_reducible apply RowOk.emp); exact rfl) | ((with_reducible apply RowOk.eq); (exact rfl); rotate_left; (first | (with_reducible exact scal_int _ _) | (with_reducible exact scal_flt _ _) | (with_reducible exact scal_bool _) | (intro c hc; cases hc; done) | (simp [LV.isCell, bnd]; done))) | exact trivial | refine And.intro ?_ ?_))
  all_goals (try rfl)
def soB (xs : List (Option Nat)) : List (Option Nat) := if listB xs then srtO xs else []
theorem soB_len (xs : List (Option Nat)) : (soB xs).length ≤ 256 := by
  unfold soB
  split
  · rename_i h; rw [srtO_len]; exact (listB_len h).2.1
  · exact Nat.zero_le _
set_option maxHeartbeats 2000000 in
theorem l05Sorted_c (lv : LV) (ws : List Nat) (H : Hp) (h : RdL H lv (ws.map Fw)) (hn0 : 1 ≤ ws.length) (hn : ws.length ≤ 1048576) :
    FunH Try.prog 30 [lv] H fun r H' => r = .sl H.length 0 0 ws.length none ∧ H' = H ++ [⟨0, false, 25, 1, (srt kW ws).map Fw⟩] := by
  have hfl : (ws.map Fw).all LV.isCell = true := by rw [← Fw_map]; exact all_flt .f32 _
  (refine FunH_body tyOk Try.func30 rfl (by kernel_rfl) Try.ntmps30 (fun hcl hbd => ?_); simp only [List.length_cons, List.length_nil, Nat.reduceAdd, Nat.reduceSub, List.replicate, List.cons_append, List.nil_append])
  repeat' (first
    | ((with_reducible refine hK _ _ ?_); clear hK K)
    | ((with_reducible refine hK _ ?_); clear hK K; try simp only [])
    | ((first | (with_reducible show AOp _ _ _ _ _ _ _) | (with_reducible show AQOp _ _ _ _ _ _ _)); simp (disch := first | ((with_reducible show liveO _ _ _ = true); first | assumption | (exact liveO_setS (by assumption)) | (exact PtL.live (by assumption)) | (exact PtL.liveA (by assumption) _) | (simp only [go_sem]; done)) | omega | assumption | rfl | (simp only [go_sem]; first | done | omega)) only [go_sem, reduceIte, reduceCtorEq, Nat.reduceAdd, Nat.reduceMul, Nat.reduceSub, Nat.reduceLeDiff, Nat.lt_irrefl, Nat.reduceLT, Nat.reduceEqDiff, Nat.reduceBEq, Int.reduceLE, Int.reduceLT, Int.reduceToNat, w64, eq_self, h.lenm, h.cellsA, hfl])
    | (with_reducible refine AW_seq (fun K hK => ?_))
    | (with_reducible refine AW_region tyOk ?_)
    | ((with_reducible refine AW_quiet (id := 6) tyOk ?_ ?_ ?_); (kernel_rfl); (kernel_rfl))
    | (with_reducible refine AOps_cons (fun K hK => ?_))
    | (with_reducible refine AQOps_cons (fun K hK => ?_))
    | ((with_reducible refine AQOps_nil ?_); try simp only [thenA, blockA, if_true, if_false, reduceIte, Nat.reduceEqDiff, reduceCtorEq])
    | ((with_reducible refine AOps_nil ?_); try simp only [thenA, blockA, if_true, if_false, reduceIte, Nat.reduceEqDiff, reduceCtorEq])
    | (with_reducible refine AW_block ?_)
    | ((first | (with_reducible refine AW_ret ?_) | (with_reducible refine AW_skip ?_) | (with_reducible refine AW_exit ?_)); try simp only [thenA, blockA, if_true, if_false, reduceIte, Nat.reduceEqDiff, reduceCtorEq])
    | ((with_reducible show AW _ _ (.cond _ _ _) _ _ _); refine AW_cond rfl (fun hg => ?_) (fun hg => ?_) <;> first | (exfalso; simp only [reduceCtorEq] at hg; done) | ((try simp only [Bool.not_eq_true', Bool.not_eq_false', decide_eq_true_eq, decide_eq_false_iff_not] at hg); try (exfalso; omega)))
    | ((with_reducible show _ ∧ _); refine And.intro (fun hg => ?_) (fun hg => ?_) <;> (try simp only [Bool.not_eq_true', Bool.not_eq_false'] at hg) <;> simp only [hg] <;> (try simp only [decide_eq_true_eq, decide_eq_false_iff_not] at hg) <;> (try (exfalso; omega)))
    | (clear hK K)
    | fail)
  refine AW_loopV [4, 5, 6, 12, 13, 14, 15, 16, 17, 18, 19, 20, 21, 22, 23, 24, 25, 26, 27, 28, 29, 30, 31, 32, 33, 34, 35, 36, 37, 38, 39, 40, 41, 42, 43, 44, 45, 46, 47, 48, 49] (fun i : Nat => [(12, .int .i64 (i : Nat))]) (fun i => H ++ [⟨1, false, 25, 1, (upd kW ws 0 i).map Fw⟩]) (fun i => i ≤ ws.length) (fun i => ws.length - i) 0 (Nat.zero_le _) ?_ ?_ ?_
  · simp only [junkAll, setAll, List.foldl_cons, List.foldl_nil, List.set_cons_succ, List.set_cons_zero, JL, true_or, or_true, and_true, true_and, reduceCtorEq, false_or, or_false, LV.int.injEq, LV.bool.injEq, LV.flt.injEq, LV.sl.injEq, LV.ptr.injEq, eq_self, Int.natCast_add, Int.natCast_one, Int.natCast_zero, Int.ofNat_zero]
  · simp only [upd_none]
  · intro i hi K hK
    simp only [junkAll, setAll, List.foldl_cons, List.foldl_nil, List.set_cons_succ, List.set_cons_zero]
    by_cases hib : i < ws.length
    · obtain ⟨S, hS⟩ : ∃ S, srt kW (rg ws 0 i) = S := ⟨_, rfl⟩
      have hSl : S.length = i := by rw [← hS, srt_len, rg_len (by omega)]; rfl
      have hst := ins_start kW ws (a := 0) (i := i) (by omega) (by omega)
      have hend := fun t => ins_end (key := kW) ws (a := 0) (i := i) (t := t) (by omega) (by omega)
      have hSa : Asc kW S := by rw [← hS]; exact srt_asc _
      rw [hS] at hst hend
      obtain ⟨P, hP⟩ : ∃ P, ws.take 0 = P := ⟨_, rfl⟩
      obtain ⟨R, hR⟩ : ∃ R, ws.drop (i + 1) = R := ⟨_, rfl⟩
      obtain ⟨x, hx⟩ : ∃ x, ix ws i = x := ⟨_, rfl⟩
      have hPl : P.length = 0 := by rw [← hP]; simp
      have hRl : R.length = ws.length - (i + 1) := by rw [← hR]; simp
      rw [hP, hR, hx] at hst hend
      repeat' (first
        | ((with_reducible refine hK _ _ ?_); clear hK K)
        | ((with_reducible refine hK _ ?_); clear hK K; try simp only [])
        | ((first | (with_reducible show AOp _ _ _ _ _ _ _) | (with_reducible show AQOp _ _ _ _ _ _ _)); simp (disch := first | ((with_reducible show liveO _ _ _ = true); first | assumption | (exact liveO_setS (by assumption)) | (exact PtL.live (by assumption)) | (exact PtL.liveA (by assumption) _) | (simp only [go_sem]; done)) | omega | assumption | rfl | (simp only [go_sem]; first | done | omega)) only [go_sem, reduceIte, reduceCtorEq, Nat.reduceAdd, Nat.reduceMul, Nat.reduceSub, Nat.reduceLeDiff, Nat.lt_irrefl, Nat.reduceLT, Nat.reduceEqDiff, Nat.reduceBEq, Int.reduceLE, Int.reduceLT, Int.reduceToNat, w64, eq_self])
        | (with_reducible refine AW_seq (fun K hK => ?_))
        | (with_reducible refine AW_region tyOk ?_)
        | ((with_reducible refine AW_quiet (id := 6) tyOk ?_ ?_ ?_); (kernel_rfl); (kernel_rfl))
        | (with_reducible refine AOps_cons (fun K hK => ?_))
        | (with_reducible refine AQOps_cons (fun K hK => ?_))
        | ((with_reducible refine AQOps_nil ?_); try simp only [thenA, blockA, if_true, if_false, reduceIte, Nat.reduceEqDiff, reduceCtorEq])
        | ((with_reducible refine AOps_nil ?_); try simp only [thenA, blockA, if_true, if_false, reduceIte, Nat.reduceEqDiff, reduceCtorEq])
        | (with_reducible refine AW_block ?_)
        | ((first | (with_reducible refine AW_ret ?_) | (with_reducible refine AW_skip ?_) | (with_reducible refine AW_exit ?_)); try simp only [thenA, blockA, if_true, if_false, reduceIte, Nat.reduceEqDiff, reduceCtorEq])
        | ((with_reducible show AW _ _ (.cond _ _ _) _ _ _); refine AW_cond rfl (fun hg => ?_) (fun hg => ?_) <;> first | (exfalso; simp only [reduceCtorEq] at hg; done) | ((try simp only [Bool.not_eq_true', Bool.not_eq_false', decide_eq_true_eq, decide_eq_false_iff_not] at hg); try (exfalso; omega)))
        | ((with_reducible show _ ∧ _); refine And.intro (fun hg => ?_) (fun hg => ?_) <;> (try simp only [Bool.not_eq_true', Bool.not_eq_false'] at hg) <;> simp only [hg] <;> (try simp only [decide_eq_true_eq, decide_eq_false_iff_not] at hg) <;> (try (exfalso; omega)))
        | (clear hK K)
        | fail)
      refine AW_loopV [5, 6, 16, 17, 18, 19, 20, 21, 22, 23, 24, 25, 26, 27, 28, 29, 30, 31, 32, 33, 34, 35, 36, 37, 38, 39, 40, 41, 42, 43, 44, 45, 46, 47, 48] (fun t : Nat => [(5, .int .i64 (t : Nat))]) (fun t => H ++ [⟨1, false, 25, 1, (mv P S R x t).map Fw⟩]) (fun t => t ≤ S.length ∧ ∀ s ∈ S.drop t, kW x < kW s) (fun t => t) S.length ⟨Nat.le_refl _, by simp⟩ ?_ ?_ ?_
      · simp only [junkAll, setAll, List.foldl_cons, List.foldl_nil, List.set_cons_succ, List.set_cons_zero, JL, true_or, or_true, and_true, true_and, reduceCtorEq, false_or, or_false, LV.int.injEq, LV.bool.injEq, LV.flt.injEq, LV.sl.injEq, LV.ptr.injEq, eq_self, Int.natCast_add, Int.natCast_one, Int.natCast_zero, Int.ofNat_zero]; rw [hSl]
      · rw [hst]
      · intro t ⟨ht, hq⟩ K2 hK2
        obtain ⟨E, hE⟩ : ∃ E, mv P S R x t = E := ⟨_, rfl⟩
        have hEl : E.length = ws.length := by rw [← hE, mv_len _ _ _ _ _ ht]; omega
        have hEx : ix E t = x := by rw [← hE, mv_at _ _ _ _ _ ht (by omega)]
        rw [hE]
        simp only [junkAll, setAll, List.foldl_cons, List.foldl_nil, List.set_cons_succ, List.set_cons_zero]
        cases t with
        | zero =>
          repeat' (first
            | ((with_reducible refine hK _ _ ?_); clear hK K)
            | ((with_reducible refine hK _ ?_); clear hK K; try simp only [])
            | ((first | (with_reducible show AOp _ _ _ _ _ _ _) | (with_reducible show AQOp _ _ _ _ _ _ _)); simp (disch := first | ((with_reducible show liveO _ _ _ = true); first | assumption | (exact liveO_setS (by assumption)) | (exact PtL.live (by assumption)) | (exact PtL.liveA (by assumption) _) | (simp only [go_sem]; done)) | omega | assumption | rfl | (simp only [go_sem]; first | done | omega)) only [go_sem, reduceIte, reduceCtorEq, Nat.reduceAdd, Nat.reduceMul, Nat.reduceSub, Nat.reduceLeDiff, Nat.lt_irrefl, Nat.reduceLT, Nat.reduceEqDiff, Nat.reduceBEq, Int.reduceLE, Int.reduceLT, Int.reduceToNat, w64, eq_self])
            | (with_reducible refine AW_seq (fun K hK => ?_))
            | (with_reducible refine AW_region tyOk ?_)
            | ((with_reducible refine AW_quiet (id := 6) tyOk ?_ ?_ ?_); (kernel_rfl); (kernel_rfl))
            | (with_reducible refine AOps_cons (fun K hK => ?_))
            | (with_reducible refine AQOps_cons (fun K hK => ?_))
            | ((with_reducible refine AQOps_nil ?_); try simp only [thenA, blockA, if_true, if_false, reduceIte, Nat.reduceEqDiff, reduceCtorEq])
            | ((with_reducible refine AOps_nil ?_); try simp only [thenA, blockA, if_true, if_false, reduceIte, Nat.reduceEqDiff, reduceCtorEq])
            | (with_reducible refine AW_block ?_)
            | ((first | (with_reducible refine AW_ret ?_) | (with_reducible refine AW_skip ?_) | (with_reducible refine AW_exit ?_)); try simp only [thenA, blockA, if_true, if_false, reduceIte, Nat.reduceEqDiff, reduceCtorEq])
            | ((with_reducible show AW _ _ (.cond _ _ _) _ _ _); refine AW_cond rfl (fun hg => ?_) (fun hg => ?_) <;> first | (exfalso; simp only [reduceCtorEq] at hg; done) | ((try simp only [Bool.not_eq_true', Bool.not_eq_false', decide_eq_true_eq, decide_eq_false_iff_not] at hg); try (exfalso; omega)))
            | ((with_reducible show _ ∧ _); refine And.intro (fun hg => ?_) (fun hg => ?_) <;> (try simp only [Bool.not_eq_true', Bool.not_eq_false'] at hg) <;> simp only [hg] <;> (try simp only [decide_eq_true_eq, decide_eq_false_iff_not] at hg) <;> (try (exfalso; omega)))
            | (clear hK K)
            | fail)
          refine hK _ _ (i + 1) (by omega) (by omega) ?_ ?_
          · simp only [junkAll, setAll, List.foldl_cons, List.foldl_nil, List.set_cons_succ, List.set_cons_zero, JL, true_or, or_true, and_true, true_and, reduceCtorEq, false_or, or_false, LV.int.injEq, LV.bool.injEq, LV.flt.injEq, LV.sl.injEq, LV.ptr.injEq, eq_self, Int.natCast_add, Int.natCast_one, Int.natCast_zero, Int.ofNat_zero]
          · rw [← hE, hend 0 (by simp) (by simpa using hq)]
        | succ t =>
          have hEb : ix E t = ix S t := by rw [← hE, mv_below _ _ _ _ _ (by omega) (by omega)]
          have hEs : swp E (t + 1) t = mv P S R x t := by rw [← hE, mv_down _ _ _ _ _ (by omega) (by omega) (by omega)]
          have ej : (((t + 1 : Nat) : Int) - 1).toNat = t := by omega
          by_cases hcf : kW x < kW (ix S t)
          · have hlt : fLt .f32 (some (ix E (t + 1))) (some (ix E t)) = true := by rw [kW_lt, hEx, hEb]; exact decide_eq_true hcf
            repeat' (first
              | ((with_reducible refine hK _ _ ?_); clear hK K)
              | ((with_reducible refine hK _ ?_); clear hK K; try simp only [])
              | ((first | (with_reducible show AOp _ _ _ _ _ _ _) | (with_reducible show AQOp _ _ _ _ _ _ _)); simp (disch := first | ((with_reducible show liveO _ _ _ = true); first | assumption | (exact liveO_setS (by assumption)) | (exact PtL.live (by assumption)) | (exact PtL.liveA (by assumption) _) | (simp only [go_sem]; done)) | omega | assumption | rfl | (simp only [go_sem]; first | done | omega)) only [go_sem, reduceIte, reduceCtorEq, Nat.reduceAdd, Nat.reduceMul, Nat.reduceSub, Nat.reduceLeDiff, Nat.lt_irrefl, Nat.reduceLT, Nat.reduceEqDiff, Nat.reduceBEq, Int.reduceLE, Int.reduceLT, Int.reduceToNat, w64, eq_self, mget, mset, Fw, ej, hEl, hlt])
              | (with_reducible refine AW_seq (fun K hK => ?_))
              | (with_reducible refine AW_region tyOk ?_)
              | ((with_reducible refine AW_quiet (id := 6) tyOk ?_ ?_ ?_); (kernel_rfl); (kernel_rfl))
              | (with_reducible refine AOps_cons (fun K hK => ?_))
              | (with_reducible refine AQOps_cons (fun K hK => ?_))
              | ((with_reducible refine AQOps_nil ?_); try simp only [thenA, blockA, if_true, if_false, reduceIte, Nat.reduceEqDiff, reduceCtorEq])
              | ((with_reducible refine AOps_nil ?_); try simp only [thenA, blockA, if_true, if_false, reduceIte, Nat.reduceEqDiff, reduceCtorEq])
              | (with_reducible refine AW_block ?_)
              | ((first | (with_reducible refine AW_ret ?_) | (with_reducible refine AW_skip ?_) | (with_reducible refine AW_exit ?_)); try simp only [thenA, blockA, if_true, if_false, reduceIte, Nat.reduceEqDiff, reduceCtorEq])
              | ((with_reducible show AW _ _ (.cond _ _ _) _ _ _); refine AW_cond rfl (fun hg => ?_) (fun hg => ?_) <;> first | (exfalso; simp only [reduceCtorEq] at hg; done) | ((try simp only [Bool.not_eq_true', Bool.not_eq_false', decide_eq_true_eq, decide_eq_false_iff_not] at hg); try (exfalso; omega)))
              | ((with_reducible show _ ∧ _); refine And.intro (fun hg => ?_) (fun hg => ?_) <;> (try simp only [Bool.not_eq_true', Bool.not_eq_false'] at hg) <;> simp only [hg] <;> (try simp only [decide_eq_true_eq, decide_eq_false_iff_not] at hg) <;> (try (exfalso; omega)))
              | (clear hK K)
              | fail)
            refine hK2 _ _ t ⟨by omega, ?_⟩ (by omega) ?_ ?_
            · intro s hs
              rw [drop_ix S t (by omega)] at hs
              rcases List.mem_cons.1 hs with rfl | hs
              · exact hcf
              · exact hq s hs
            · simp only [junkAll, setAll, List.foldl_cons, List.foldl_nil, List.set_cons_succ, List.set_cons_zero, JL, true_or, or_true, and_true, true_and, reduceCtorEq, false_or, or_false, LV.int.injEq, LV.bool.injEq, LV.flt.injEq, LV.sl.injEq, LV.ptr.injEq, eq_self, Int.natCast_add, Int.natCast_one, Int.natCast_zero, Int.ofNat_zero]; omega
            · rw [← hEs, ← mset]; rfl
          · have hlt : fLt .f32 (some (ix E (t + 1))) (some (ix E t)) = false := by rw [kW_lt, hEx, hEb]; exact decide_eq_false hcf
            repeat' (first
              | ((with_reducible refine hK _ _ ?_); clear hK K)
              | ((with_reducible refine hK _ ?_); clear hK K; try simp only [])
              | ((first | (with_reducible show AOp _ _ _ _ _ _ _) | (with_reducible show AQOp _ _ _ _ _ _ _)); simp (disch := first | ((with_reducible show liveO _ _ _ = true); first | assumption | (exact liveO_setS (by assumption)) | (exact PtL.live (by assumption)) | (exact PtL.liveA (by assumption) _) | (simp only [go_sem]; done)) | omega | assumption | rfl | (simp only [go_sem]; first | done | omega)) only [go_sem, reduceIte, reduceCtorEq, Nat.reduceAdd, Nat.reduceMul, Nat.reduceSub, Nat.reduceLeDiff, Nat.lt_irrefl, Nat.reduceLT, Nat.reduceEqDiff, Nat.reduceBEq, Int.reduceLE, Int.reduceLT, Int.reduceToNat, w64, eq_self, mget, mset, Fw, ej, hEl, hlt])
              | (with_reducible refine AW_seq (fun K hK => ?_))
              | (with_reducible refine AW_region tyOk ?_)
              | ((with_reducible refine AW_quiet (id := 6) tyOk ?_ ?_ ?_); (kernel_rfl); (kernel_rfl))
              | (with_reducible refine AOps_cons (fun K hK => ?_))
              | (with_reducible refine AQOps_cons (fun K hK => ?_))
              | ((with_reducible refine AQOps_nil ?_); try simp only [thenA, blockA, if_true, if_false, reduceIte, Nat.reduceEqDiff, reduceCtorEq])
              | ((with_reducible refine AOps_nil ?_); try simp only [thenA, blockA, if_true, if_false, reduceIte, Nat.reduceEqDiff, reduceCtorEq])
              | (with_reducible refine AW_block ?_)
              | ((first | (with_reducible refine AW_ret ?_) | (with_reducible refine AW_skip ?_) | (with_reducible refine AW_exit ?_)); try simp only [thenA, blockA, if_true, if_false, reduceIte, Nat.reduceEqDiff, reduceCtorEq])
              | ((with_reducible show AW _ _ (.cond _ _ _) _ _ _); refine AW_cond rfl (fun hg => ?_) (fun hg => ?_) <;> first | (exfalso; simp only [reduceCtorEq] at hg; done) | ((try simp only [Bool.not_eq_true', Bool.not_eq_false', decide_eq_true_eq, decide_eq_false_iff_not] at hg); try (exfalso; omega)))
              | ((with_reducible show _ ∧ _); refine And.intro (fun hg => ?_) (fun hg => ?_) <;> (try simp only [Bool.not_eq_true', Bool.not_eq_false'] at hg) <;> simp only [hg] <;> (try simp only [decide_eq_true_eq, decide_eq_false_iff_not] at hg) <;> (try (exfalso; omega)))
              | (clear hK K)
              | fail)
            refine hK _ _ (i + 1) (by omega) (by omega) ?_ ?_
            · simp only [junkAll, setAll, List.foldl_cons, List.foldl_nil, List.set_cons_succ, List.set_cons_zero, JL, true_or, or_true, and_true, true_and, reduceCtorEq, false_or, or_false, LV.int.injEq, LV.bool.injEq, LV.flt.injEq, LV.sl.injEq, LV.ptr.injEq, eq_self, Int.natCast_add, Int.natCast_one, Int.natCast_zero, Int.ofNat_zero]
            · rw [← hE, hend (t + 1) (fun s hs => ?_) hq]
              obtain ⟨m, m1, m2, rfl⟩ := mem_take_ix hs
              exact Int.le_trans (asc_ix hSa (i := m) (j := t) (by omega) (by omega)) (by omega)
    · repeat' (first
        | ((with_reducible refine hK _ _ ?_); clear hK K)
        | ((with_reducible refine hK _ ?_); clear hK K; try simp only [])
        | ((first | (with_reducible show AOp _ _ _ _ _ _ _) | (with_reducible show AQOp _ _ _ _ _ _ _)); simp (disch := first | ((with_reducible show liveO _ _ _ = true); first | assumption | (exact liveO_setS (by assumption)) | (exact PtL.live (by assumption)) | (exact PtL.liveA (by assumption) _) | (simp only [go_sem]; done)) | omega | assumption | rfl | (simp only [go_sem]; first | done | omega)) only [go_sem, reduceIte, reduceCtorEq, Nat.reduceAdd, Nat.reduceMul, Nat.reduceSub, Nat.reduceLeDiff, Nat.lt_irrefl, Nat.reduceLT, Nat.reduceEqDiff, Nat.reduceBEq, Int.reduceLE, Int.reduceLT, Int.reduceToNat, w64, eq_self])
        | (with_reducible refine AW_seq (fun K hK => ?_))
        | (with_reducible refine AW_region tyOk ?_)
        | ((with_reducible refine AW_quiet (id := 6) tyOk ?_ ?_ ?_); (kernel_rfl); (kernel_rfl))
        | (with_reducible refine AOps_cons (fun K hK => ?_))
        | (with_reducible refine AQOps_cons (fun K hK => ?_))
        | ((with_reducible refine AQOps_nil ?_); try simp only [thenA, blockA, if_true, if_false, reduceIte, Nat.reduceEqDiff, reduceCtorEq])
        | ((with_reducible refine AOps_nil ?_); try simp only [thenA, blockA, if_true, if_false, reduceIte, Nat.reduceEqDiff, reduceCtorEq])
        | (with_reducible refine AW_block ?_)
        | ((first | (with_reducible refine AW_ret ?_) | (with_reducible refine AW_skip ?_) | (with_reducible refine AW_exit ?_)); try simp only [thenA, blockA, if_true, if_false, reduceIte, Nat.reduceEqDiff, reduceCtorEq])
        | ((with_reducible show AW _ _ (.cond _ _ _) _ _ _); refine AW_cond rfl (fun hg => ?_) (fun hg => ?_) <;> first | (exfalso; simp only [reduceCtorEq] at hg; done) | ((try simp only [Bool.not_eq_true', Bool.not_eq_false', decide_eq_true_eq, decide_eq_false_iff_not] at hg); try (exfalso; omega)))
        | ((with_reducible show _ ∧ _); refine And.intro (fun hg => ?_) (fun hg => ?_) <;> (try simp only [Bool.not_eq_true', Bool.not_eq_false'] at hg) <;> simp only [hg] <;> (try simp only [decide_eq_true_eq, decide_eq_false_iff_not] at hg) <;> (try (exfalso; omega)))
        | (clear hK K)
        | fail)
      have ei : i = ws.length := by omega
      subst ei
      simp only [upd_full]
      have hl : (srt kW ws).length = ws.length := srt_len
      simp only [← Fw_map]
      refine EndA_rows [some 0] hcl (by first | exact Or.inr rfl | exact Or.inl rfl) (by simp only [Try.results30, resA, aresL, go_sem, reduceIte, reduceCtorEq, Nat.reduceAdd, Nat.reduceMul, Nat.reduceSub, Nat.reduceLeDiff, Nat.lt_irrefl, Nat.reduceLT, Nat.reduceEqDiff, Nat.reduceBEq, Int.reduceLE, Int.reduceLT, Int.reduceToNat, w64, eq_self] <;> rfl) (by decide) ?_ ?_ ⟨rfl, rfl⟩
      rotate_left
      · repeat' (first | exact trivial | apply TdT.tup | apply TdT.one | apply TdL.agg | apply TdL.cell | exact TdB.old _ trivial rfl | exact TdB.own 0 0 _ _ _ _ rfl _ rfl rfl | exact TdB.junk _ | exact TdB.old _ (by assumption) (by assumption) | refine And.intro ?_ ?_)
      all_goals (repeat' (first | (with_reducible exact RowOk.none) | ((with_reducible apply RowOk.emp); exact rfl) | ((with_reducible apply RowOk.eq); (exact rfl); rotate_left; (first | (with_reducible exact scal_int _ _) | (with_reducible exact scal_flt _ _) | (with_reducible exact scal_bool _) | (intro c hc; cases hc; done) | (simp [LV.isCell, bnd]; done))) | exact trivial | refine And.intro ?_ ?_))
      all_goals (try rfl)
end Go.Proofs.Ytonlgkecphijoaa
