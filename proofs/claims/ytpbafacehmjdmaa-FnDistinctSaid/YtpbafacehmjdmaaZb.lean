/- Natural logarithms, in the abstract machine, both sides. -/
import Derived.Test.YtpbafacehmjdmaaBj
import Derived.Test.YtpbafacehmjdmaaZg
namespace Go.Proofs.Ytpbafacehmjdmaa
open Go.RowKit
set_option linter.unusedSimpArgs false
set_option linter.unusedVariables false
set_option maxRecDepth 100000

theorem cw_some' {w : Nat} (h : isNum .f32 w = true) : cw (some w) = some (wide w) := by simp [cw, can_num h]
def lgH (y : Option Nat) : Nat → Option Nat
  | 0 => y
  | k + 1 => opC .quo .f64 (lgH y k) (some 4611686018427387904)
def lgK (j : Nat) : Nat := FloatKind.f64.nearest (25 - 2 * (j : Int))
def eF (j : Nat) : Nat := FloatKind.f64.nearest (j : Int)
def lgQ (u : Option Nat) : Nat → Option Nat
  | 0 => some 0
  | j + 1 => opC .add .f64 (opC .quo .f64 (some 4607182418800017408) (some (lgK j))) (opC .mul .f64 u (lgQ u j))
def lgS (y : Option Nat) : Option Nat := opC .quo .f64 (opC .sub .f64 y (some 4607182418800017408)) (opC .add .f64 y (some 4607182418800017408))
def lgU (y : Option Nat) : Option Nat := opC .mul .f64 (lgS y) (lgS y)
def lgR (y : Option Nat) (k : Nat) : Option Nat :=
  opC .add .f64 (opC .mul .f64 (some 4611686018427387904) (opC .mul .f64 (lgS y) (lgQ (lgU y) 13))) (opC .mul .f64 (some (eF k)) (some 4604418534313441775))
theorem lgK_ok : ∀ j, j < 13 → opC .sub .f64 (some (lgK j)) (some 4611686018427387904) = some (lgK (j + 1)) ∧ fGe .f64 (some (lgK j)) (some 4607182418800017408) = true := by decide +kernel
theorem lgK_end : fGe .f64 (some (lgK 13)) (some 4607182418800017408) = false := by decide +kernel
theorem lgK_0 : lgK 0 = 4627730092099895296 := by decide +kernel
theorem eF_0 : eF 0 = 0 := by decide +kernel
theorem eF_ok : ∀ j, j < 9 → opC .add .f64 (some (eF j)) (some 4607182418800017408) = some (eF (j + 1)) := by decide +kernel
theorem lgK_cast (j : Nat) : FloatKind.f64.nearest (25 - 2 * (j : Int)) = lgK j := rfl
theorem eF_cast (j : Nat) : FloatKind.f64.nearest (j : Int) = eF j := rfl
set_option maxHeartbeats 2000000 in
theorem naturalLog_c (y : Option Nat) (k : Nat) (H : Hp) (hk : k ≤ 9) (h1 : ∀ j, j < k → fGe .f64 (lgH y j) (some 4609434218613702656) = true) (h2 : fGe .f64 (lgH y k) (some 4609434218613702656) = false) (h3 : fLt .f64 (lgH y k) (some 4604930618986332160) = false) :
    FunH Try.prog 42 [.flt .f64 y] H fun r H' => r = .flt .f64 (lgR (lgH y k) k) ∧ H' = H := by
  (refine FunH_body tyOk Try.func42 rfl (by kernel_rfl) Try.ntmps42 (fun hcl hbd => ?_); simp only [List.length_cons, List.length_nil, Nat.reduceAdd, Nat.reduceSub, List.replicate, List.cons_append, List.nil_append])
  repeat' (first
    | ((with_reducible refine hK _ _ ?_); clear hK K)
    | ((first | (with_reducible show AOp _ _ _ _ _ _ _)); simp (disch := first | ((with_reducible show liveO _ _ _ = true); first | assumption | (exact liveO_setS (by assumption)) | (exact PtL.live (by assumption)) | (exact PtL.liveA (by assumption) _) | (simp only [go_sem]; done)) | omega | assumption | rfl | (simp only [go_sem]; first | done | omega)) only [go_sem, reduceIte, reduceCtorEq, Nat.reduceAdd, Nat.reduceMul, Nat.reduceSub, Nat.reduceLeDiff, Nat.lt_irrefl, Nat.reduceLT, Nat.reduceEqDiff, Nat.reduceBEq, Int.reduceLE, Int.reduceLT, Int.reduceToNat, w64, eq_self])
    | (with_reducible refine AW_seq (fun K hK => ?_))
    | (with_reducible refine AW_region tyOk ?_)
    | (with_reducible refine AOps_cons (fun K hK => ?_))
    | ((with_reducible refine AOps_nil ?_); try simp only [thenA, blockA, if_true, if_false, reduceIte, Nat.reduceEqDiff, reduceCtorEq])
    | (with_reducible refine AW_block ?_)
    | ((first | (with_reducible refine AW_ret ?_) | (with_reducible refine AW_skip ?_) | (with_reducible refine AW_exit ?_)); try simp only [thenA, blockA, if_true, if_false, reduceIte, Nat.reduceEqDiff, reduceCtorEq])
    | ((with_reducible show AW _ _ (.cond _ _ _) _ _ _); refine AW_cond rfl (fun hg => ?_) (fun hg => ?_) <;> first | (exfalso; simp only [reduceCtorEq] at hg; done) | ((try simp only [Bool.not_eq_true', Bool.not_eq_false', decide_eq_true_eq, decide_eq_false_iff_not] at hg); try (exfalso; omega)))
    | ((with_reducible show _ ∧ _); refine And.intro (fun hg => ?_) (fun hg => ?_) <;> (try simp only [Bool.not_eq_true', Bool.not_eq_false'] at hg) <;> simp only [hg] <;> (try simp only [decide_eq_true_eq, decide_eq_false_iff_not] at hg) <;> (try (exfalso; omega)))
    | (clear hK K)
    | fail)
  refine AW_loopV [0, 3, 8, 9, 10, 11, 12, 13] (fun j : Nat => [(0, .flt .f64 (lgH y j)), (3, .flt .f64 (some (eF j)))]) (fun _ => H) (fun j => j ≤ k) (fun j => k - j) 0 (Nat.zero_le _) ?_ rfl ?_
  · simp only [junkAll, setAll, List.foldl_cons, List.foldl_nil, List.set_cons_succ, List.set_cons_zero, JL, true_or, or_true, and_true, true_and, reduceCtorEq, false_or, or_false, LV.int.injEq, LV.bool.injEq, LV.flt.injEq, LV.sl.injEq, LV.ptr.injEq, eq_self, Int.natCast_add, Int.natCast_one, Int.natCast_zero, Int.ofNat_zero]; rw [eF_0]; exact ⟨rfl, rfl⟩
  intro j hj K hK
  simp only [junkAll, setAll, List.foldl_cons, List.foldl_nil, List.set_cons_succ, List.set_cons_zero]
  by_cases hjk : j < k
  · have a1 := h1 j hjk
    have a2 := eF_ok j (by omega)
    repeat' (first
      | ((with_reducible refine hK _ _ ?_); clear hK K)
      | ((first | (with_reducible show AOp _ _ _ _ _ _ _)); simp (disch := first | ((with_reducible show liveO _ _ _ = true); first | assumption | (exact liveO_setS (by assumption)) | (exact PtL.live (by assumption)) | (exact PtL.liveA (by assumption) _) | (simp only [go_sem]; done)) | omega | assumption | rfl | (simp only [go_sem]; first | done | omega)) only [go_sem, reduceIte, reduceCtorEq, Nat.reduceAdd, Nat.reduceMul, Nat.reduceSub, Nat.reduceLeDiff, Nat.lt_irrefl, Nat.reduceLT, Nat.reduceEqDiff, Nat.reduceBEq, Int.reduceLE, Int.reduceLT, Int.reduceToNat, w64, eq_self, a1, a2])
      | (with_reducible refine AW_seq (fun K hK => ?_))
      | (with_reducible refine AW_region tyOk ?_)
      | (with_reducible refine AOps_cons (fun K hK => ?_))
      | ((with_reducible refine AOps_nil ?_); try simp only [thenA, blockA, if_true, if_false, reduceIte, Nat.reduceEqDiff, reduceCtorEq])
      | (with_reducible refine AW_block ?_)
      | ((first | (with_reducible refine AW_ret ?_) | (with_reducible refine AW_skip ?_) | (with_reducible refine AW_exit ?_)); try simp only [thenA, blockA, if_true, if_false, reduceIte, Nat.reduceEqDiff, reduceCtorEq])
      | ((with_reducible show AW _ _ (.cond _ _ _) _ _ _); refine AW_cond rfl (fun hg => ?_) (fun hg => ?_) <;> first | (exfalso; simp only [reduceCtorEq] at hg; done) | ((try simp only [Bool.not_eq_true', Bool.not_eq_false', decide_eq_true_eq, decide_eq_false_iff_not] at hg); try (exfalso; omega)))
      | ((with_reducible show _ ∧ _); refine And.intro (fun hg => ?_) (fun hg => ?_) <;> (try simp only [Bool.not_eq_true', Bool.not_eq_false'] at hg) <;> simp only [hg] <;> (try simp only [decide_eq_true_eq, decide_eq_false_iff_not] at hg) <;> (try (exfalso; omega)))
      | (clear hK K)
      | fail)
    refine hK _ _ (j + 1) (by omega) (by omega) ?_ rfl
    simp only [junkAll, setAll, List.foldl_cons, List.foldl_nil, List.set_cons_succ, List.set_cons_zero, JL, true_or, or_true, and_true, true_and, reduceCtorEq, false_or, or_false, LV.int.injEq, LV.bool.injEq, LV.flt.injEq, LV.sl.injEq, LV.ptr.injEq, eq_self, Int.natCast_add, Int.natCast_one, Int.natCast_zero, Int.ofNat_zero]
    rfl
  have ej : j = k := by omega
  subst ej
  repeat' (first
    | ((with_reducible refine hK _ _ ?_); clear hK K)
    | ((first | (with_reducible show AOp _ _ _ _ _ _ _)); simp (disch := first | ((with_reducible show liveO _ _ _ = true); first | assumption | (exact liveO_setS (by assumption)) | (exact PtL.live (by assumption)) | (exact PtL.liveA (by assumption) _) | (simp only [go_sem]; done)) | omega | assumption | rfl | (simp only [go_sem]; first | done | omega)) only [go_sem, reduceIte, reduceCtorEq, Nat.reduceAdd, Nat.reduceMul, Nat.reduceSub, Nat.reduceLeDiff, Nat.lt_irrefl, Nat.reduceLT, Nat.reduceEqDiff, Nat.reduceBEq, Int.reduceLE, Int.reduceLT, Int.reduceToNat, w64, eq_self, h2])
    | (with_reducible refine AW_seq (fun K hK => ?_))
    | (with_reducible refine AW_region tyOk ?_)
    | (with_reducible refine AOps_cons (fun K hK => ?_))
    | ((with_reducible refine AOps_nil ?_); try simp only [thenA, blockA, if_true, if_false, reduceIte, Nat.reduceEqDiff, reduceCtorEq])
    | (with_reducible refine AW_block ?_)
    | ((first | (with_reducible refine AW_ret ?_) | (with_reducible refine AW_skip ?_) | (with_reducible refine AW_exit ?_)); try simp only [thenA, blockA, if_true, if_false, reduceIte, Nat.reduceEqDiff, reduceCtorEq])
    | ((with_reducible show AW _ _ (.cond _ _ _) _ _ _); refine AW_cond rfl (fun hg => ?_) (fun hg => ?_) <;> first | (exfalso; simp only [reduceCtorEq] at hg; done) | ((try simp only [Bool.not_eq_true', Bool.not_eq_false', decide_eq_true_eq, decide_eq_false_iff_not] at hg); try (exfalso; omega)))
    | ((with_reducible show _ ∧ _); refine And.intro (fun hg => ?_) (fun hg => ?_) <;> (try simp only [Bool.not_eq_true', Bool.not_eq_false'] at hg) <;> simp only [hg] <;> (try simp only [decide_eq_true_eq, decide_eq_false_iff_not] at hg) <;> (try (exfalso; omega)))
    | (clear hK K)
    | fail)
  refine AW_loopV [0, 3, 14, 15, 16, 17, 18, 19] (fun _ : Nat => [(0, .flt .f64 (lgH y j)), (3, .flt .f64 (some (eF j)))]) (fun _ => H) (fun _ => True) (fun _ => 0) 0 trivial ?_ rfl ?_
  · simp only [junkAll, setAll, List.foldl_cons, List.foldl_nil, List.set_cons_succ, List.set_cons_zero, JL, true_or, or_true, and_true, true_and, reduceCtorEq, false_or, or_false, LV.int.injEq, LV.bool.injEq, LV.flt.injEq, LV.sl.injEq, LV.ptr.injEq, eq_self, Int.natCast_add, Int.natCast_one, Int.natCast_zero, Int.ofNat_zero]
  intro _ _ K hK
  simp only [junkAll, setAll, List.foldl_cons, List.foldl_nil, List.set_cons_succ, List.set_cons_zero]
  have b1 : opC .quo .f64 (opC .sub .f64 (lgH y j) (some 4607182418800017408)) (opC .add .f64 (lgH y j) (some 4607182418800017408)) = lgS (lgH y j) := rfl
  have b2 : opC .mul .f64 (lgS (lgH y j)) (lgS (lgH y j)) = lgU (lgH y j) := rfl
  repeat' (first
    | ((with_reducible refine hK _ _ ?_); clear hK K)
    | ((first | (with_reducible show AOp _ _ _ _ _ _ _)); simp (disch := first | ((with_reducible show liveO _ _ _ = true); first | assumption | (exact liveO_setS (by assumption)) | (exact PtL.live (by assumption)) | (exact PtL.liveA (by assumption) _) | (simp only [go_sem]; done)) | omega | assumption | rfl | (simp only [go_sem]; first | done | omega)) only [go_sem, reduceIte, reduceCtorEq, Nat.reduceAdd, Nat.reduceMul, Nat.reduceSub, Nat.reduceLeDiff, Nat.lt_irrefl, Nat.reduceLT, Nat.reduceEqDiff, Nat.reduceBEq, Int.reduceLE, Int.reduceLT, Int.reduceToNat, w64, eq_self, h3, b1, b2])
    | (with_reducible refine AW_seq (fun K hK => ?_))
    | (with_reducible refine AW_region tyOk ?_)
    | (with_reducible refine AOps_cons (fun K hK => ?_))
    | ((with_reducible refine AOps_nil ?_); try simp only [thenA, blockA, if_true, if_false, reduceIte, Nat.reduceEqDiff, reduceCtorEq])
    | (with_reducible refine AW_block ?_)
    | ((first | (with_reducible refine AW_ret ?_) | (with_reducible refine AW_skip ?_) | (with_reducible refine AW_exit ?_)); try simp only [thenA, blockA, if_true, if_false, reduceIte, Nat.reduceEqDiff, reduceCtorEq])
    | ((with_reducible show AW _ _ (.cond _ _ _) _ _ _); refine AW_cond rfl (fun hg => ?_) (fun hg => ?_) <;> first | (exfalso; simp only [reduceCtorEq] at hg; done) | ((try simp only [Bool.not_eq_true', Bool.not_eq_false', decide_eq_true_eq, decide_eq_false_iff_not] at hg); try (exfalso; omega)))
    | ((with_reducible show _ ∧ _); refine And.intro (fun hg => ?_) (fun hg => ?_) <;> (try simp only [Bool.not_eq_true', Bool.not_eq_false'] at hg) <;> simp only [hg] <;> (try simp only [decide_eq_true_eq, decide_eq_false_iff_not] at hg) <;> (try (exfalso; omega)))
    | (clear hK K)
    | fail)
  refine AW_loopV [6, 7, 28, 29, 30, 31, 32, 33, 34, 35, 36, 37] (fun t : Nat => [(6, .flt .f64 (lgQ (lgU (lgH y j)) t)), (7, .flt .f64 (some (lgK t)))]) (fun _ => H) (fun t => t ≤ 13) (fun t => 13 - t) 0 (Nat.zero_le _) ?_ rfl ?_
  · simp only [junkAll, setAll, List.foldl_cons, List.foldl_nil, List.set_cons_succ, List.set_cons_zero, JL, true_or, or_true, and_true, true_and, reduceCtorEq, false_or, or_false, LV.int.injEq, LV.bool.injEq, LV.flt.injEq, LV.sl.injEq, LV.ptr.injEq, eq_self, Int.natCast_add, Int.natCast_one, Int.natCast_zero, Int.ofNat_zero]; rw [lgK_0]; exact ⟨rfl, rfl⟩
  intro t ht K hK
  simp only [junkAll, setAll, List.foldl_cons, List.foldl_nil, List.set_cons_succ, List.set_cons_zero]
  by_cases htl : t < 13
  · obtain ⟨a1, a2⟩ := lgK_ok t htl
    repeat' (first
      | ((with_reducible refine hK _ _ ?_); clear hK K)
      | ((first | (with_reducible show AOp _ _ _ _ _ _ _)); simp (disch := first | ((with_reducible show liveO _ _ _ = true); first | assumption | (exact liveO_setS (by assumption)) | (exact PtL.live (by assumption)) | (exact PtL.liveA (by assumption) _) | (simp only [go_sem]; done)) | omega | assumption | rfl | (simp only [go_sem]; first | done | omega)) only [go_sem, reduceIte, reduceCtorEq, Nat.reduceAdd, Nat.reduceMul, Nat.reduceSub, Nat.reduceLeDiff, Nat.lt_irrefl, Nat.reduceLT, Nat.reduceEqDiff, Nat.reduceBEq, Int.reduceLE, Int.reduceLT, Int.reduceToNat, w64, eq_self, a1, a2])
      | (with_reducible refine AW_seq (fun K hK => ?_))
      | (with_reducible refine AW_region tyOk ?_)
      | (with_reducible refine AOps_cons (fun K hK => ?_))
      | ((with_reducible refine AOps_nil ?_); try simp only [thenA, blockA, if_true, if_false, reduceIte, Nat.reduceEqDiff, reduceCtorEq])
      | (with_reducible refine AW_block ?_)
      | ((first | (with_reducible refine AW_ret ?_) | (with_reducible refine AW_skip ?_) | (with_reducible refine AW_exit ?_)); try simp only [thenA, blockA, if_true, if_false, reduceIte, Nat.reduceEqDiff, reduceCtorEq])
      | ((with_reducible show AW _ _ (.cond _ _ _) _ _ _); refine AW_cond rfl (fun hg => ?_) (fun hg => ?_) <;> first | (exfalso; simp only [reduceCtorEq] at hg; done) | ((try simp only [Bool.not_eq_true', Bool.not_eq_false', decide_eq_true_eq, decide_eq_false_iff_not] at hg); try (exfalso; omega)))
      | ((with_reducible show _ ∧ _); refine And.intro (fun hg => ?_) (fun hg => ?_) <;> (try simp only [Bool.not_eq_true', Bool.not_eq_false'] at hg) <;> simp only [hg] <;> (try simp only [decide_eq_true_eq, decide_eq_false_iff_not] at hg) <;> (try (exfalso; omega)))
      | (clear hK K)
      | fail)
    refine hK _ _ (t + 1) (by omega) (by omega) ?_ rfl
    simp only [junkAll, setAll, List.foldl_cons, List.foldl_nil, List.set_cons_succ, List.set_cons_zero, JL, true_or, or_true, and_true, true_and, reduceCtorEq, false_or, or_false, LV.int.injEq, LV.bool.injEq, LV.flt.injEq, LV.sl.injEq, LV.ptr.injEq, eq_self, Int.natCast_add, Int.natCast_one, Int.natCast_zero, Int.ofNat_zero]
    rfl
  · have et : t = 13 := by omega
    subst et
    repeat' (first
      | ((with_reducible refine hK _ _ ?_); clear hK K)
      | ((first | (with_reducible show AOp _ _ _ _ _ _ _)); simp (disch := first | ((with_reducible show liveO _ _ _ = true); first | assumption | (exact liveO_setS (by assumption)) | (exact PtL.live (by assumption)) | (exact PtL.liveA (by assumption) _) | (simp only [go_sem]; done)) | omega | assumption | rfl | (simp only [go_sem]; first | done | omega)) only [go_sem, reduceIte, reduceCtorEq, Nat.reduceAdd, Nat.reduceMul, Nat.reduceSub, Nat.reduceLeDiff, Nat.lt_irrefl, Nat.reduceLT, Nat.reduceEqDiff, Nat.reduceBEq, Int.reduceLE, Int.reduceLT, Int.reduceToNat, w64, eq_self, lgK_end])
      | (with_reducible refine AW_seq (fun K hK => ?_))
      | (with_reducible refine AW_region tyOk ?_)
      | (with_reducible refine AOps_cons (fun K hK => ?_))
      | ((with_reducible refine AOps_nil ?_); try simp only [thenA, blockA, if_true, if_false, reduceIte, Nat.reduceEqDiff, reduceCtorEq])
      | (with_reducible refine AW_block ?_)
      | ((first | (with_reducible refine AW_ret ?_) | (with_reducible refine AW_skip ?_) | (with_reducible refine AW_exit ?_)); try simp only [thenA, blockA, if_true, if_false, reduceIte, Nat.reduceEqDiff, reduceCtorEq])
      | ((with_reducible show AW _ _ (.cond _ _ _) _ _ _); refine AW_cond rfl (fun hg => ?_) (fun hg => ?_) <;> first | (exfalso; simp only [reduceCtorEq] at hg; done) | ((try simp only [Bool.not_eq_true', Bool.not_eq_false', decide_eq_true_eq, decide_eq_false_iff_not] at hg); try (exfalso; omega)))
      | ((with_reducible show _ ∧ _); refine And.intro (fun hg => ?_) (fun hg => ?_) <;> (try simp only [Bool.not_eq_true', Bool.not_eq_false'] at hg) <;> simp only [hg] <;> (try simp only [decide_eq_true_eq, decide_eq_false_iff_not] at hg) <;> (try (exfalso; omega)))
      | (clear hK K)
      | fail)
    all_goals (first | refine EndA_cut hcl (by first | exact Or.inr rfl | exact Or.inl rfl) (by simp only [Try.results42, resA, aresL, go_sem, reduceIte, reduceCtorEq, Nat.reduceAdd, Nat.reduceMul, Nat.reduceSub, Nat.reduceLeDiff, Nat.lt_irrefl, Nat.reduceLT, Nat.reduceEqDiff, Nat.reduceBEq, Int.reduceLE, Int.reduceLT, Int.reduceToNat, w64, eq_self] <;> rfl) rfl ?_ | refine EndA_same (by first | exact Or.inr rfl | exact Or.inl rfl) (by simp only [Try.results42, resA, aresL, go_sem, reduceIte, reduceCtorEq, Nat.reduceAdd, Nat.reduceMul, Nat.reduceSub, Nat.reduceLeDiff, Nat.lt_irrefl, Nat.reduceLT, Nat.reduceEqDiff, Nat.reduceBEq, Int.reduceLE, Int.reduceLT, Int.reduceToNat, w64, eq_self] <;> rfl) ?_)
    all_goals exact ⟨rfl, rfl⟩
/-- What a logarithm's run comes to at a number: how often it is halved, what is given. -/
structure LgOk (w k z : Nat) : Prop where
  num : isNum .f32 w = true
  ne0 : fEq .f32 (some w) (some 0) = false
  lt0 : fLt .f32 (some w) (some 0) = false
  eqs : fEq .f32 (some w) (some w) = true
  fin : finO (some w) = true
  q1 : fEq .f64 (some (wide w)) (some (wide w)) = true
  q2 : fLt .f64 (some (wide w)) (some 0) = false
  q3 : fEq .f64 (some (wide w)) (some 0) = false
  q4 : fGt .f64 (some (wide w)) (some 9218868437227405311) = false
  hk : k ≤ 9
  h1 : ∀ j, j < k → fGe .f64 (lgH (some (wide w)) j) (some 4609434218613702656) = true
  h2 : fGe .f64 (lgH (some (wide w)) k) (some 4609434218613702656) = false
  h3 : fLt .f64 (lgH (some (wide w)) k) (some 4604930618986332160) = false
  hz : cvC .f64 .f32 (lgR (lgH (some (wide w)) k) k) = some (some z)
def lgB (w k m : Nat) : Bool := isNum .f32 w && !fEq .f32 (some w) (some 0) && !fLt .f32 (some w) (some 0) && fEq .f32 (some w) (some w) && finO (some w) && fEq .f64 (some (wide w)) (some (wide w)) &&
  !fLt .f64 (some (wide w)) (some 0) && !fEq .f64 (some (wide w)) (some 0) && !fGt .f64 (some (wide w)) (some 9218868437227405311) && ((List.range k).all fun j => fGe .f64 (lgH (some (wide w)) j) (some 4609434218613702656)) &&
  !fGe .f64 (lgH (some (wide w)) k) (some 4609434218613702656) && !fLt .f64 (lgH (some (wide w)) k) (some 4604930618986332160) &&
  match cvC .f64 .f32 (lgR (lgH (some (wide w)) k) k) with
  | some (some z) => finO (opC .mul .f32 (some (FloatKind.f32.nearest m)) (some z))
  | _ => false
theorem lgB_ok {w k m : Nat} (hk : k ≤ 9) (h : lgB w k m = true) : ∃ z, LgOk w k z ∧ finO (opC .mul .f32 (some (FloatKind.f32.nearest m)) (some z)) = true := by
  unfold lgB at h
  simp only [Bool.and_eq_true, Bool.not_eq_true'] at h
  obtain ⟨⟨⟨⟨⟨⟨⟨⟨⟨⟨⟨⟨a1, a2⟩, a3⟩, a4⟩, a5⟩, a6⟩, a7⟩, a8⟩, a9⟩, a10⟩, a11⟩, a12⟩, a13⟩ := h
  split at a13
  · rename_i z hz
    exact ⟨z, ⟨a1, a2, a3, a4, a5, a6, a7, a8, a9, hk, fun j hj => List.all_eq_true.1 a10 j (List.mem_range.2 hj), a11, a12, hz⟩, a13⟩
  · cases a13
def lgX (m e : Nat) : Option Nat := opC .quo .f32 (some (FloatKind.f32.nearest m)) (some (FloatKind.f32.nearest e))
def lgChk (m e : Nat) : Bool := match lgX m e with
  | some w => (List.range 10).any fun k => lgB w k m
  | none => false
theorem lgChk_ok {m e : Nat} (h : lgChk m e = true) : ∃ w k z, lgX m e = some w ∧ LgOk w k z ∧ finO (opC .mul .f32 (some (FloatKind.f32.nearest m)) (some z)) = true := by
  unfold lgChk at h
  split at h
  · rename_i w hw
    rw [List.any_eq_true] at h
    obtain ⟨k, hk, hb⟩ := h
    rw [List.mem_range] at hk
    obtain ⟨z, h1, h2⟩ := lgB_ok (by omega) hb
    exact ⟨w, k, z, hw, h1, h2⟩
  · cases h
open Classical in
noncomputable def lgF (o : Option Nat) : Option Nat := match o with
  | some w => if h : ∃ p : Nat × Nat, LgOk w p.1 p.2 then some (Classical.choose h).2 else none
  | none => none
theorem lgF_ok {w k z : Nat} (h : LgOk w k z) : ∃ k' z', lgF (some w) = some z' ∧ LgOk w k' z' := by
  have hx : ∃ p : Nat × Nat, LgOk w p.1 p.2 := ⟨(k, z), h⟩
  refine ⟨(Classical.choose hx).1, (Classical.choose hx).2, ?_, Classical.choose_spec hx⟩
  unfold lgF
  simp only [dif_pos hx]
theorem lgOk_uniq {w k z k' z' : Nat} (h : LgOk w k z) (h' : LgOk w k' z') : z = z' := by
  have hkk : k = k' := by
    rcases Nat.lt_trichotomy k k' with hl | rfl | hl
    · have := h'.h1 k hl; rw [h.h2] at this; cases this
    · rfl
    · have := h.h1 k' hl; rw [h'.h2] at this; cases this
  subst hkk
  have := h.hz.symm.trans h'.hz
  simpa using this
theorem LogNumber_c (w k z : Nat) (H : Hp) (h : LgOk w k z) : FunH Try.prog 26 [.flt .f32 (some w)] H fun r H' => r = .flt .f32 (some z) ∧ H' = H := by
  have hcw := cw_some' h.num
  have hn := naturalLog_c (some (wide w)) k H h.hk h.h1 h.h2 h.h3
  have g1 := h.ne0
  have g2 := h.lt0
  have g3 := h.eqs
  have g4 := h.fin
  have g5 := h.hz
  (refine FunH_body tyOk Try.func26 rfl (by kernel_rfl) Try.ntmps26 (fun hcl hbd => ?_); simp only [List.length_cons, List.length_nil, Nat.reduceAdd, Nat.reduceSub, List.replicate, List.cons_append, List.nil_append])
  repeat' (first
    | ((with_reducible refine hK _ _ ?_); clear hK K)
    | ((first | (with_reducible show AOp _ _ _ _ _ _ _)); simp (disch := first | ((with_reducible show liveO _ _ _ = true); first | assumption | (exact liveO_setS (by assumption)) | (exact PtL.live (by assumption)) | (exact PtL.liveA (by assumption) _) | (simp only [go_sem]; done)) | omega | assumption | rfl | (simp only [go_sem]; first | done | omega)) only [go_sem, reduceIte, reduceCtorEq, Nat.reduceAdd, Nat.reduceMul, Nat.reduceSub, Nat.reduceLeDiff, Nat.lt_irrefl, Nat.reduceLT, Nat.reduceEqDiff, Nat.reduceBEq, Int.reduceLE, Int.reduceLT, Int.reduceToNat, w64, eq_self, g1, g2, g3, g4, g5, cvC32, hcw])
    | (with_reducible refine AW_seq (fun K hK => ?_))
    | (with_reducible refine AW_region tyOk ?_)
    | (with_reducible refine AOps_cons (fun K hK => ?_))
    | ((with_reducible refine AOps_nil ?_); try simp only [thenA, blockA, if_true, if_false, reduceIte, Nat.reduceEqDiff, reduceCtorEq])
    | (with_reducible refine AW_block ?_)
    | ((first | (with_reducible refine AW_ret ?_) | (with_reducible refine AW_skip ?_) | (with_reducible refine AW_exit ?_)); try simp only [thenA, blockA, if_true, if_false, reduceIte, Nat.reduceEqDiff, reduceCtorEq])
    | ((with_reducible show AW _ _ (.cond _ _ _) _ _ _); refine AW_cond rfl (fun hg => ?_) (fun hg => ?_) <;> first | (exfalso; simp only [reduceCtorEq] at hg; done) | ((try simp only [Bool.not_eq_true', Bool.not_eq_false', decide_eq_true_eq, decide_eq_false_iff_not] at hg); try (exfalso; omega)))
    | ((with_reducible show _ ∧ _); refine And.intro (fun hg => ?_) (fun hg => ?_) <;> (try simp only [Bool.not_eq_true', Bool.not_eq_false'] at hg) <;> simp only [hg] <;> (try simp only [decide_eq_true_eq, decide_eq_false_iff_not] at hg) <;> (try (exfalso; omega)))
    | ((with_reducible apply FunH_intro); (first | exact hn | exact IsFinite_c _ _ | exact naturalLog_c _ _ _ (by first | assumption | omega | (simp; omega) | (simp; done)) (by first | assumption | (simp; done)) (by first | rfl | assumption | omega | (simp; done)) (by first | rfl | assumption | omega | (simp; done))))
    | (clear hK K)
    | fail)
  all_goals (first | refine EndA_cut hcl (by first | exact Or.inr rfl | exact Or.inl rfl) (by simp only [Try.results26, resA, aresL, go_sem, reduceIte, reduceCtorEq, Nat.reduceAdd, Nat.reduceMul, Nat.reduceSub, Nat.reduceLeDiff, Nat.lt_irrefl, Nat.reduceLT, Nat.reduceEqDiff, Nat.reduceBEq, Int.reduceLE, Int.reduceLT, Int.reduceToNat, w64, eq_self] <;> rfl) rfl ?_ | refine EndA_same (by first | exact Or.inr rfl | exact Or.inl rfl) (by simp only [Try.results26, resA, aresL, go_sem, reduceIte, reduceCtorEq, Nat.reduceAdd, Nat.reduceMul, Nat.reduceSub, Nat.reduceLeDiff, Nat.lt_irrefl, Nat.reduceLT, Nat.reduceEqDiff, Nat.reduceBEq, Int.reduceLE, Int.reduceLT, Int.reduceToNat, w64, eq_self] <;> rfl) ?_)
  all_goals exact ⟨rfl, rfl⟩
end Go.Proofs.Ytpbafacehmjdmaa
