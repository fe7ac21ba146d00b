/- Choices of a source; lists of small numbers, in the abstract machine. -/
import Derived.Test.YtpbafacehmjdmaaPb
namespace Go.Proofs.Ytpbafacehmjdmaa
open Go.RowKit
set_option linter.unusedSimpArgs false
set_option linter.unusedVariables false
set_option maxRecDepth 100000

set_option maxHeartbeats 2000000 in
theorem pick_c (id ver el : Nat) (lv : LV) (xs : List Int) (a : Nat) (seed n : Int) (H : Hp) (hp : H[id]? = some ⟨ver, false, el, 3, [lv, .int .i64 (a : Nat), .int .u64 seed]⟩) (h : RdL H lv (xs.map (LV.int .u8))) (hb : byB xs) (hl : xs.length ≤ 9223372036854775807) (ha : a ≤ 1000000) (hn : 2 ≤ n ∧ n ≤ 200) :
    FunH Try.prog 18 [.ptr id ver 0, .int .i64 n] H fun r H' => r = .int .i64 ((srO xs a seed).tmod n) ∧ H' = H.set id ⟨ver, false, el, 3, [lv, .int .i64 ((a + 1 : Nat)), .int .u64 (srS seed (srB xs a))]⟩ := by
  have hn0 : ¬ n = 0 := by omega
  have hi := srO_in hb a seed
  (refine FunH_body tyOk Try.func18 rfl (by kernel_rfl) Try.ntmps18 (fun hcl hbd => ?_); simp only [List.length_cons, List.length_nil, Nat.reduceAdd, Nat.reduceSub, List.replicate, List.cons_append, List.nil_append])
  repeat' (first
    | ((with_reducible refine hK _ _ ?_); clear hK K)
    | ((first | (with_reducible show AOp _ _ _ _ _ _ _)); simp (disch := first | ((with_reducible show liveO _ _ _ = true); first | assumption | (exact liveO_setS (by assumption)) | (exact PtL.live (by assumption)) | (exact PtL.liveA (by assumption) _) | (simp only [go_sem]; done)) | omega | assumption | rfl | (simp only [go_sem]; first | done | omega)) only [go_sem, reduceIte, reduceCtorEq, Nat.reduceAdd, Nat.reduceMul, Nat.reduceSub, Nat.reduceLeDiff, Nat.lt_irrefl, Nat.reduceLT, Nat.reduceEqDiff, Nat.reduceBEq, Int.reduceLE, Int.reduceLT, Int.reduceToNat, w64, eq_self, hn0])
    | (with_reducible refine AW_seq (fun K hK => ?_))
    | (with_reducible refine AW_region tyOk ?_)
    | (with_reducible refine AOps_cons (fun K hK => ?_))
    | ((with_reducible refine AOps_nil ?_); try simp only [thenA, blockA, if_true, if_false, reduceIte, Nat.reduceEqDiff, reduceCtorEq])
    | (with_reducible refine AW_block ?_)
    | ((first | (with_reducible refine AW_ret ?_) | (with_reducible refine AW_skip ?_) | (with_reducible refine AW_exit ?_)); try simp only [thenA, blockA, if_true, if_false, reduceIte, Nat.reduceEqDiff, reduceCtorEq])
    | ((with_reducible show AW _ _ (.cond _ _ _) _ _ _); refine AW_cond rfl (fun hg => ?_) (fun hg => ?_) <;> first | (exfalso; simp only [reduceCtorEq] at hg; done) | ((try simp only [Bool.not_eq_true', Bool.not_eq_false', decide_eq_true_eq, decide_eq_false_iff_not] at hg); try (exfalso; omega)))
    | ((with_reducible show _ ∧ _); refine And.intro (fun hg => ?_) (fun hg => ?_) <;> (try simp only [Bool.not_eq_true', Bool.not_eq_false'] at hg) <;> simp only [hg] <;> (try simp only [decide_eq_true_eq, decide_eq_false_iff_not] at hg) <;> (try (exfalso; omega)))
    | ((with_reducible apply FunH_intro); (first | exact next_c id ver el lv xs a seed _ hp h hb hl ha | exact next_c _ _ _ _ _ _ _ _ (by first | assumption | exact (hp_getj _ _ _).trans rfl | exact (hp_get0 _ _).trans rfl) (by first | assumption | exact RdL.app (by assumption) _ | exact RdL_hj rfl (by simp) | exact RdL_h0 rfl (by simp) | exact RdL_nil | exact RdL_emp) _ (by first | assumption | omega | (simp; omega) | (simp; done)) (by first | assumption | omega | (simp; omega) | (simp; done))))
    | (clear hK K)
    | fail)
  all_goals try (exfalso; omega)
  all_goals (first | refine EndA_cut hcl (by first | exact Or.inr rfl | exact Or.inl rfl) (by simp only [Try.results18, resA, aresL, go_sem, reduceIte, reduceCtorEq, Nat.reduceAdd, Nat.reduceMul, Nat.reduceSub, Nat.reduceLeDiff, Nat.lt_irrefl, Nat.reduceLT, Nat.reduceEqDiff, Nat.reduceBEq, Int.reduceLE, Int.reduceLT, Int.reduceToNat, w64, eq_self] <;> rfl) rfl ?_ | refine EndA_same (by first | exact Or.inr rfl | exact Or.inl rfl) (by simp only [Try.results18, resA, aresL, go_sem, reduceIte, reduceCtorEq, Nat.reduceAdd, Nat.reduceMul, Nat.reduceSub, Nat.reduceLeDiff, Nat.lt_irrefl, Nat.reduceLT, Nat.reduceEqDiff, Nat.reduceBEq, Int.reduceLE, Int.reduceLT, Int.reduceToNat, w64, eq_self] <;> rfl) ?_)
  all_goals exact ⟨rfl, rfl⟩
/-- A small number. -/
def fB (p : Int) : Option Nat := opC .quo .f32 (some (FloatKind.f32.nearest (p - 16))) (some 1082130432)
def b10A (xs : List Int) (k : Nat) : Int := (srA xs k).tmod 33
theorem b10A_in {xs : List Int} (h : byB xs) (k : Nat) : 0 ≤ b10A xs k ∧ b10A xs k < 33 := tmod_in (srA_in h k).1 (by omega)
def b10L (xs : List Int) (n : Nat) : List (Option Nat) := (List.range n).map fun k => fB (b10A xs k)
theorem b10L_len (xs : List Int) (n : Nat) : (b10L xs n).length = n := by simp [b10L]
theorem b10L_succ (xs : List Int) (n : Nat) : b10L xs (n + 1) = b10L xs n ++ [fB (b10A xs n)] := by simp [b10L, List.range_succ]
end Go.Proofs.Ytpbafacehmjdmaa
