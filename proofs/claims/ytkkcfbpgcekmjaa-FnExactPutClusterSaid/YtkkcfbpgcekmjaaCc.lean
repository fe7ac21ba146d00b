/- Middles of clusters; quantiles and shares by them, in the abstract machine. -/
import Derived.Test.YtkkcfbpgcekmjaaBq
import Derived.Test.YtkkcfbpgcekmjaaBoc
import Derived.Test.YtkkcfbpgcekmjaaFg
namespace Go.Proofs.Ytkkcfbpgcekmjaa
open Go.RowKit
set_option linter.unusedSimpArgs false
set_option linter.unusedVariables false
set_option maxRecDepth 100000

def midF (cs : List Int) (k : Nat) : Option Nat := opC .add .f32 (some (FloatKind.f32.nearest (sumI (cs.take k)))) (opC .mul .f32 (some 1056964608) (some (FloatKind.f32.nearest (ix cs k))))
def midL (cs : List Int) (k : Nat) : List (Option Nat) := (List.range k).map (midF cs)
theorem midL_len (cs : List Int) (k : Nat) : (midL cs k).length = k := by simp [midL]
theorem midL_succ (cs : List Int) (k : Nat) : midL cs (k + 1) = midL cs k ++ [midF cs k] := by simp [midL, List.range_succ]
theorem midL_ix (cs : List Int) (n k : Nat) (h : k < n) : ix (midL cs n) k = midF cs k := by
  rw [ix_eq _ _ (by rw [midL_len]; exact h)]; simp [midL]
theorem l05All_c (id ver : Nat) (r : Int) (x y : LV) (cs : List Int) (H : Hp) (hp : PtL H id ver [.int .i64 r, x, y]) (h : RdL H y (cs.map (LV.int .i64))) (hn : cs.length ≤ 1048576) (hb : ∀ x ∈ cs, 1 ≤ x ∧ x ≤ 1000000) :
    FunH Try.prog 184 [.ptr id ver 0] H fun r' H' => r' = .flt .f32 (some (FloatKind.f32.nearest (sumI cs))) ∧ H' = H := by
  (refine FunH_body tyOk Try.func184 rfl (by kernel_rfl) Try.ntmps184 (fun hcl hbd => ?_); simp only [List.length_cons, List.length_nil, Nat.reduceAdd, Nat.reduceSub, List.replicate, List.cons_append, List.nil_append])
  repeat' (first
    | ((with_reducible refine hK _ _ ?_); clear hK K)
    | ((first | (with_reducible show AOp _ _ _ _ _ _ _)); simp (disch := first | ((with_reducible show liveO _ _ _ = true); first | assumption | (exact liveO_setS (by assumption)) | (exact PtL.live (by assumption)) | (exact PtL.liveA (by assumption) _) | (simp only [go_sem]; done)) | omega | assumption | rfl | (simp only [go_sem]; first | done | omega)) only [go_sem, reduceIte, reduceCtorEq, Nat.reduceAdd, Nat.reduceMul, Nat.reduceSub, Nat.reduceLeDiff, Nat.lt_irrefl, Nat.reduceLT, Nat.reduceEqDiff, Nat.reduceBEq, Int.reduceLE, Int.reduceLT, Int.reduceToNat, w64, eq_self, hp.get, h.lenm])
    | (with_reducible refine AW_seq (fun K hK => ?_))
    | (with_reducible refine AW_region tyOk ?_)
    | (with_reducible refine AOps_cons (fun K hK => ?_))
    | ((with_reducible refine AOps_nil ?_); try simp only [thenA, blockA, if_true, if_false, reduceIte, Nat.reduceEqDiff, reduceCtorEq])
    | (with_reducible refine AW_block ?_)
    | ((first | (with_reducible refine AW_ret ?_) | (with_reducible refine AW_skip ?_) | (with_reducible refine AW_exit ?_)); try simp only [thenA, blockA, if_true, if_false, reduceIte, Nat.reduceEqDiff, reduceCtorEq])
    | ((with_reducible show AW _ _ (.cond _ _ _) _ _ _); refine AW_cond rfl (fun hg => ?_) (fun hg => ?_) <;> first | (exfalso; simp only [reduceCtorEq] at hg; done) | ((try simp only [Bool.not_eq_true', Bool.not_eq_false', decide_eq_true_eq, decide_eq_false_iff_not] at hg); try (exfalso; omega)))
    | ((with_reducible show _ ∧ _); refine And.intro (fun hg => ?_) (fun hg => ?_) <;> (try simp only [Bool.not_eq_true', Bool.not_eq_false'] at hg) <;> simp only [hg] <;> (try simp only [decide_eq_true_eq, decide_eq_false_iff_not] at hg) <;> (try (exfalso; omega)))
    | (clear hK K)
    | fail)
  refine AW_loopV [3, 4, 10, 11, 12, 13, 14, 15, 16, 17, 18, 19, 20, 21, 22] (fun k : Nat => [(3, .int .i64 (sumI (cs.take k))), (10, .int .i64 (k : Nat))]) (fun _ => H) (fun k => k ≤ cs.length) (fun k => cs.length - k) 0 (Nat.zero_le _) ?_ rfl ?_
  · simp only [junkAll, setAll, List.foldl_cons, List.foldl_nil, List.set_cons_succ, List.set_cons_zero, JL, true_or, or_true, and_true, true_and, reduceCtorEq, false_or, or_false, LV.int.injEq, LV.bool.injEq, LV.flt.injEq, LV.sl.injEq, LV.ptr.injEq, eq_self, Int.natCast_add, Int.natCast_one, Int.natCast_zero, Int.ofNat_zero]; rfl
  · intro k hk K hK
    have b1 := sumI_pre (xs := cs) (lo := 1) (hi := 1000000) k hk fun j hj => hb _ (ix_mem cs j (by omega))
    simp only [junkAll, setAll, List.foldl_cons, List.foldl_nil, List.set_cons_succ, List.set_cons_zero]
    by_cases hks : k < cs.length
    · have b2 := hb _ (ix_mem cs k hks)
      repeat' (first
        | ((with_reducible refine hK _ _ ?_); clear hK K)
        | ((first | (with_reducible show AOp _ _ _ _ _ _ _)); simp (disch := first | ((with_reducible show liveO _ _ _ = true); first | assumption | (exact liveO_setS (by assumption)) | (exact PtL.live (by assumption)) | (exact PtL.liveA (by assumption) _) | (simp only [go_sem]; done)) | omega | assumption | rfl | (simp only [go_sem]; first | done | omega)) only [go_sem, reduceIte, reduceCtorEq, Nat.reduceAdd, Nat.reduceMul, Nat.reduceSub, Nat.reduceLeDiff, Nat.lt_irrefl, Nat.reduceLT, Nat.reduceEqDiff, Nat.reduceBEq, Int.reduceLE, Int.reduceLT, Int.reduceToNat, w64, eq_self, hp.get, h.lenm, h.idxm, h.ldm])
        | (with_reducible refine AW_seq (fun K hK => ?_))
        | (with_reducible refine AW_region tyOk ?_)
        | (with_reducible refine AOps_cons (fun K hK => ?_))
        | ((with_reducible refine AOps_nil ?_); try simp only [thenA, blockA, if_true, if_false, reduceIte, Nat.reduceEqDiff, reduceCtorEq])
        | (with_reducible refine AW_block ?_)
        | ((first | (with_reducible refine AW_ret ?_) | (with_reducible refine AW_skip ?_) | (with_reducible refine AW_exit ?_)); try simp only [thenA, blockA, if_true, if_false, reduceIte, Nat.reduceEqDiff, reduceCtorEq])
        | ((with_reducible show AW _ _ (.cond _ _ _) _ _ _); refine AW_cond rfl (fun hg => ?_) (fun hg => ?_) <;> first | (exfalso; simp only [reduceCtorEq] at hg; done) | ((try simp only [Bool.not_eq_true', Bool.not_eq_false', decide_eq_true_eq, decide_eq_false_iff_not] at hg); try (exfalso; omega)))
        | ((with_reducible show _ ∧ _); refine And.intro (fun hg => ?_) (fun hg => ?_) <;> (try simp only [Bool.not_eq_true', Bool.not_eq_false'] at hg) <;> simp only [hg] <;> (try simp only [decide_eq_true_eq, decide_eq_false_iff_not] at hg) <;> (try (exfalso; omega)))
        | (clear hK K)
        | fail)
      refine hK _ _ (k + 1) (by (try simp only); omega) (by (try simp only); omega) ?j3 ?h3
      case h3 => (rfl)
      case j3 => (simp only [junkAll, setAll, List.foldl_cons, List.foldl_nil, List.set_cons_succ, List.set_cons_zero, JL, true_or, or_true, and_true, true_and, reduceCtorEq, false_or, or_false, LV.int.injEq, LV.bool.injEq, LV.flt.injEq, LV.sl.injEq, LV.ptr.injEq, eq_self, Int.natCast_add, Int.natCast_one, Int.natCast_zero, Int.ofNat_zero]; rw [sumI_take (by omega)])
    · have e2 : k = cs.length := by omega
      subst e2
      repeat' (first
        | ((with_reducible refine hK _ _ ?_); clear hK K)
        | ((first | (with_reducible show AOp _ _ _ _ _ _ _)); simp (disch := first | ((with_reducible show liveO _ _ _ = true); first | assumption | (exact liveO_setS (by assumption)) | (exact PtL.live (by assumption)) | (exact PtL.liveA (by assumption) _) | (simp only [go_sem]; done)) | omega | assumption | rfl | (simp only [go_sem]; first | done | omega)) only [go_sem, reduceIte, reduceCtorEq, Nat.reduceAdd, Nat.reduceMul, Nat.reduceSub, Nat.reduceLeDiff, Nat.lt_irrefl, Nat.reduceLT, Nat.reduceEqDiff, Nat.reduceBEq, Int.reduceLE, Int.reduceLT, Int.reduceToNat, w64, eq_self, hp.get, h.lenm, h.idxm, h.ldm])
        | (with_reducible refine AW_seq (fun K hK => ?_))
        | (with_reducible refine AW_region tyOk ?_)
        | (with_reducible refine AOps_cons (fun K hK => ?_))
        | ((with_reducible refine AOps_nil ?_); try simp only [thenA, blockA, if_true, if_false, reduceIte, Nat.reduceEqDiff, reduceCtorEq])
        | (with_reducible refine AW_block ?_)
        | ((first | (with_reducible refine AW_ret ?_) | (with_reducible refine AW_skip ?_) | (with_reducible refine AW_exit ?_)); try simp only [thenA, blockA, if_true, if_false, reduceIte, Nat.reduceEqDiff, reduceCtorEq])
        | ((with_reducible show AW _ _ (.cond _ _ _) _ _ _); refine AW_cond rfl (fun hg => ?_) (fun hg => ?_) <;> first | (exfalso; simp only [reduceCtorEq] at hg; done) | ((try simp only [Bool.not_eq_true', Bool.not_eq_false', decide_eq_true_eq, decide_eq_false_iff_not] at hg); try (exfalso; omega)))
        | ((with_reducible show _ ∧ _); refine And.intro (fun hg => ?_) (fun hg => ?_) <;> (try simp only [Bool.not_eq_true', Bool.not_eq_false'] at hg) <;> simp only [hg] <;> (try simp only [decide_eq_true_eq, decide_eq_false_iff_not] at hg) <;> (try (exfalso; omega)))
        | (clear hK K)
        | fail)
      all_goals (first | refine EndA_cut hcl (by first | exact Or.inr rfl | exact Or.inl rfl) (by simp only [Try.results184, resA, aresL, go_sem, reduceIte, reduceCtorEq, Nat.reduceAdd, Nat.reduceMul, Nat.reduceSub, Nat.reduceLeDiff, Nat.lt_irrefl, Nat.reduceLT, Nat.reduceEqDiff, Nat.reduceBEq, Int.reduceLE, Int.reduceLT, Int.reduceToNat, w64, eq_self] <;> rfl) rfl ?_ | refine EndA_same (by first | exact Or.inr rfl | exact Or.inl rfl) (by simp only [Try.results184, resA, aresL, go_sem, reduceIte, reduceCtorEq, Nat.reduceAdd, Nat.reduceMul, Nat.reduceSub, Nat.reduceLeDiff, Nat.lt_irrefl, Nat.reduceLT, Nat.reduceEqDiff, Nat.reduceBEq, Int.reduceLE, Int.reduceLT, Int.reduceToNat, w64, eq_self] <;> rfl) ?_)
      exact ⟨by rw [List.take_length], rfl⟩
theorem clusB_all {r : Int} {ms : List (Option Nat)} {cs : List Int} (h : clusB r ms cs = true) :
    (2 ≤ r ∧ r ≤ 64) ∧ ms.length ≤ 256 ∧ cs.length = ms.length ∧ ascFB ms = true ∧ (∀ x ∈ cs, 1 ≤ x ∧ x ≤ 1000000) ∧ sumI cs ≤ 1000000 ∧ 0 ≤ sumI cs ∧ ms.all finO = true := by
  unfold clusB at h
  simp only [Bool.and_eq_true, decide_eq_true_eq] at h
  obtain ⟨⟨⟨⟨⟨h1, h2⟩, h3⟩, h4⟩, h5⟩, h6⟩ := h
  have h7 := inB_all h5
  refine ⟨by simpa [inB] using h1, h2, h3, h4, h7, h6, ?_, ?_⟩
  · have := (sumI_pre (xs := cs) (lo := 1) (hi := 1000000) cs.length (Nat.le_refl _) fun j hj => h7 _ (ix_mem cs j hj)).1
    rw [List.take_length] at this; omega
  · unfold ascFB at h4; exact (Bool.and_eq_true_iff.1 h4).1
/-! About which share is at most x. -/
def cbOk (r : Int) (ms : List (Option Nat)) (cs : List Int) (x : Option Nat) : Bool := clusB r ms cs && decide (ms.length ≠ 0) && finO x
def cbV (ms : List (Option Nat)) (cs : List Int) (x : Option Nat) (p : Nat) : Option Nat :=
  opC .quo .f32 (opC .add .f32 (midF cs (p - 1)) (opC .mul .f32 (opC .quo .f32 (opC .sub .f32 x (ix ms (p - 1))) (opC .sub .f32 (ix ms p) (ix ms (p - 1)))) (opC .sub .f32 (midF cs p) (midF cs (p - 1))))) (some (FloatKind.f32.nearest (sumI cs)))
def cbR (ms : List (Option Nat)) (cs : List Int) (x : Option Nat) : Option Nat × Bool :=
  if fLt .f32 x (ix ms 0) then (some 0, true) else if fGe .f32 x (ix ms (ms.length - 1)) then (some 1065353216, true) else
  (orZ (cbV ms cs x (ms.countP fun y => fLe .f32 y x)), finO (cbV ms cs x (ms.countP fun y => fLe .f32 y x)))
def cbF (r : Int) (ms : List (Option Nat)) (cs : List Int) (x : Option Nat) : Option Nat × Bool := if cbOk r ms cs x then cbR ms cs x else (some 0, false)
theorem rank_mid {ms : List (Option Nat)} {x : Option Nat} (ha : ascFB ms = true) (hx : finO x = true) (h0 : ms.length ≠ 0) (h1 : fLt .f32 x (ix ms 0) = false) (h2 : fGe .f32 x (ix ms (ms.length - 1)) = false) :
    1 ≤ (ms.countP fun y => fLe .f32 y x) ∧ (ms.countP fun y => fLe .f32 y x) ≤ ms.length - 1 := by
  have hf : ∀ j, j < ms.length → finO (ix ms j) = true := fun j hj => by
    unfold ascFB at ha; exact List.all_eq_true.1 (Bool.and_eq_true_iff.1 ha).1 _ (ix_mem _ _ hj)
  have k0 := asc_rank ha hx 0 (by omega)
  have k1 := asc_rank ha hx (ms.length - 1) (by omega)
  rw [fLt_kO hx (hf 0 (by omega)), decide_eq_false_iff_not] at h1
  rw [fGe_eq, fLe_kO (hf _ (by omega)) hx] at h2
  rw [fLe_kO (hf 0 (by omega)) hx, decide_eq_decide] at k0
  rw [fLe_kO (hf _ (by omega)) hx, h2, eq_comm, decide_eq_false_iff_not] at k1
  omega
end Go.Proofs.Ytkkcfbpgcekmjaa
