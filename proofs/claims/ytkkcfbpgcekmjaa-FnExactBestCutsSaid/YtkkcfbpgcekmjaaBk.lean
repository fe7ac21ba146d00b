/- EvenCuts in the abstract machine. -/
import Derived.Test.YtkkcfbpgcekmjaaBj
namespace Go.Proofs.Ytkkcfbpgcekmjaa
open Go.RowKit
set_option linter.unusedSimpArgs false
set_option linter.unusedVariables false
set_option maxRecDepth 100000

def partsB (xs : List (Option Nat)) (p : Int) : Bool := listB xs && inB p 1 xs.length
theorem partsB_iff {xs : List (Option Nat)} {p : Int} (h : partsB xs p = true) : 1 ≤ xs.length ∧ xs.length ≤ 256 ∧ 1 ≤ p ∧ p ≤ xs.length := by
  unfold partsB at h
  simp only [Bool.and_eq_true] at h
  have h1 := listB_len h.1
  have h2 := h.2
  simp only [inB, Bool.and_eq_true, decide_eq_true_eq] at h2
  exact ⟨h1.1, h1.2.1, h2⟩
theorem areParts_c (lv : LV) (xs : List (Option Nat)) (p : Int) (H : Hp) (h : RdL H lv (xs.map (LV.flt .f32))) (hn : xs.length ≤ 17592186044416) : FunH Try.prog 107 [lv, .int .i64 p] H fun r H' => r = .bool (partsB xs p) ∧ H' = H := by
  unfold partsB
  (refine FunH_body tyOk Try.func107 rfl (by kernel_rfl) Try.ntmps107 (fun hcl hbd => ?_); simp only [List.length_cons, List.length_nil, Nat.reduceAdd, Nat.reduceSub, List.replicate, List.cons_append, List.nil_append])
  repeat' (first
    | ((with_reducible refine hK _ _ ?_); clear hK K)
    | ((first | (with_reducible show AOp _ _ _ _ _ _ _)); simp (disch := first | ((with_reducible show liveO _ _ _ = true); first | assumption | (exact liveO_setS (by assumption)) | (exact PtL.live (by assumption)) | (exact PtL.liveA (by assumption) _) | (simp only [go_sem]; done)) | omega | assumption | rfl | (simp only [go_sem]; first | done | omega)) only [go_sem, reduceIte, reduceCtorEq, Nat.reduceAdd, Nat.reduceMul, Nat.reduceSub, Nat.reduceLeDiff, Nat.lt_irrefl, Nat.reduceLT, Nat.reduceEqDiff, Nat.reduceBEq, Int.reduceLE, Int.reduceLT, Int.reduceToNat, w64, eq_self, h.lenm])
    | (with_reducible refine AW_seq (fun K hK => ?_))
    | (with_reducible refine AW_region tyOk ?_)
    | (with_reducible refine AOps_cons (fun K hK => ?_))
    | ((with_reducible refine AOps_nil ?_); try simp only [thenA, blockA, if_true, if_false, reduceIte, Nat.reduceEqDiff, reduceCtorEq])
    | (with_reducible refine AW_block ?_)
    | ((first | (with_reducible refine AW_ret ?_) | (with_reducible refine AW_skip ?_) | (with_reducible refine AW_exit ?_)); try simp only [thenA, blockA, if_true, if_false, reduceIte, Nat.reduceEqDiff, reduceCtorEq])
    | ((with_reducible show AW _ _ (.cond _ _ _) _ _ _); refine AW_cond rfl (fun hg => ?_) (fun hg => ?_) <;> first | (exfalso; simp only [reduceCtorEq] at hg; done) | ((try simp only [Bool.not_eq_true', Bool.not_eq_false', decide_eq_true_eq, decide_eq_false_iff_not] at hg); try (exfalso; omega)))
    | ((with_reducible show _ ∧ _); refine And.intro (fun hg => ?_) (fun hg => ?_) <;> (try simp only [Bool.not_eq_true', Bool.not_eq_false'] at hg) <;> simp only [hg] <;> (try simp only [decide_eq_true_eq, decide_eq_false_iff_not] at hg) <;> (try (exfalso; omega)))
    | ((with_reducible apply FunH_intro); (first | exact within_c _ _ _ _ | exact IsList_c _ _ _ (by first | assumption | exact RdL.app (by assumption) _ | exact RdL_hj rfl (by simp) | exact RdL_h0 rfl (by simp) | exact RdL_nil | exact RdL_emp) (by first | assumption | omega | (simp; omega) | (simp; done))))
    | (clear hK K)
    | fail)
  all_goals (first | refine EndA_cut hcl (by first | exact Or.inr rfl | exact Or.inl rfl) (by simp only [Try.results107, resA, aresL, go_sem, reduceIte, reduceCtorEq, Nat.reduceAdd, Nat.reduceMul, Nat.reduceSub, Nat.reduceLeDiff, Nat.lt_irrefl, Nat.reduceLT, Nat.reduceEqDiff, Nat.reduceBEq, Int.reduceLE, Int.reduceLT, Int.reduceToNat, w64, eq_self] <;> rfl) rfl ?_ | refine EndA_same (by first | exact Or.inr rfl | exact Or.inl rfl) (by simp only [Try.results107, resA, aresL, go_sem, reduceIte, reduceCtorEq, Nat.reduceAdd, Nat.reduceMul, Nat.reduceSub, Nat.reduceLeDiff, Nat.lt_irrefl, Nat.reduceLT, Nat.reduceEqDiff, Nat.reduceBEq, Int.reduceLE, Int.reduceLT, Int.reduceToNat, w64, eq_self] <;> rfl) ?_)
  all_goals (refine ⟨congrArg LV.bool ?_, rfl⟩; first | rfl | (grind))
def evenI (n : Nat) (p : Int) (i : Nat) : Int := (((i + 1 : Nat) : Int) * (n : Int)).tdiv p
def evenL (n : Nat) (p : Int) (k : Nat) : List Int := (List.range k).map (evenI n p)
theorem evenL_len (n : Nat) (p : Int) (k : Nat) : (evenL n p k).length = k := by simp [evenL]
theorem evenL_succ (n : Nat) (p : Int) (k : Nat) : evenL n p (k + 1) = evenL n p k ++ [evenI n p k] := by simp [evenL, List.range_succ]
def evenR (xs : List (Option Nat)) (p : Int) : List Int := if partsB xs p then evenL xs.length p (p - 1).toNat else []
theorem evenR_len (xs : List (Option Nat)) (p : Int) : (evenR xs p).length ≤ 256 := by
  unfold evenR
  split
  · rename_i h
    have := partsB_iff h
    rw [evenL_len]; omega
  · simp
theorem even_bound (n : Nat) (p : Int) (k : Nat) (hn : n ≤ 256) (hk : k ≤ 256) (hp : 1 ≤ p) : 0 ≤ ((k : Nat) : Int) * (n : Int) ∧ ((k : Nat) : Int) * (n : Int) ≤ 65536 ∧ 0 ≤ (((k : Nat) : Int) * (n : Int)).tdiv p ∧ (((k : Nat) : Int) * (n : Int)).tdiv p ≤ 65536 := by
  have h1 : k * n ≤ 256 * 256 := Nat.mul_le_mul hk hn
  have h2 : ((k : Nat) : Int) * (n : Int) = ((k * n : Nat) : Int) := by push_cast; rfl
  rw [h2]
  have h3 : 0 ≤ ((k * n : Nat) : Int).tdiv p := Int.tdiv_nonneg (by omega) (by omega)
  have h4 : ((k * n : Nat) : Int).tdiv p ≤ ((k * n : Nat) : Int) := Int.tdiv_le_self _ (by omega)
  omega
end Go.Proofs.Ytkkcfbpgcekmjaa
