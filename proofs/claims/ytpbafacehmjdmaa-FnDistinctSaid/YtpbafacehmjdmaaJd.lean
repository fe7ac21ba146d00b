/- Different keys of a source, in the abstract machine. -/
import Derived.Test.YtpbafacehmjdmaaPc
namespace Go.Proofs.Ytpbafacehmjdmaa
open Go.RowKit
set_option linter.unusedSimpArgs false
set_option linter.unusedVariables false
set_option maxRecDepth 100000

def pk2 (xs : List Int) (a : Nat) (n : Int) : Int := (srA xs a * 256 + srA xs (a + 1)).tmod n
theorem pk2_in {xs : List Int} (h : byB xs) (a : Nat) {n : Int} (hn : 1 ≤ n) : 0 ≤ pk2 xs a n ∧ pk2 xs a n < n := by
  have h1 := srA_in h a
  have h2 := srA_in h (a + 1)
  exact tmod_in (by omega) hn
set_option maxHeartbeats 4000000 in
theorem pick2_c (id ver el : Nat) (lv : LV) (xs : List Int) (a : Nat) (n : Int) (H : Hp) (hp : H[id]? = some ⟨ver, false, el, 3, [lv, .int .i64 (a : Nat), .int .u64 (srN xs a)]⟩) (h : RdL H lv (xs.map (LV.int .u8))) (hne : ∀ v off n cap, lv ≠ .sl id v off n cap) (hb : byB xs) (hl : xs.length ≤ 9223372036854775807) (ha : a ≤ 100000) (hn : 201 ≤ n ∧ n ≤ 4294967296) :
    FunH Try.prog 18 [.ptr id ver 0, .int .i64 n] H fun r H' => r = .int .i64 (pk2 xs a n) ∧ H' = H.set id ⟨ver, false, el, 3, [lv, .int .i64 ((a + 2 : Nat)), .int .u64 (srN xs (a + 2))]⟩ := by
  have hn0 : ¬ n = 0 := by omega
  have hlt := lt_getF' hp
  have h1 := srA_in hb a
  have h2 := srA_in hb (a + 1)
  have hw1 : IntKind.i64.wrap (srA xs a * 256) = srA xs a * 256 := w64 _ (by omega) (by omega)
  have hw2 : IntKind.i64.wrap (srA xs a * 256 + srA xs (a + 1)) = srA xs a * 256 + srA xs (a + 1) := w64 _ (by omega) (by omega)
  have c1 := next_c id ver el lv xs a (srN xs a) H hp h hb hl (by omega)
  have e1 : srO xs a (srN xs a) = srA xs a := rfl
  have e2 : srS (srN xs a) (srB xs a) = srN xs (a + 1) := rfl
  rw [e1, e2] at c1
  have c2 := next_c id ver el lv xs (a + 1) (srN xs (a + 1)) (H.set id ⟨ver, false, el, 3, [lv, .int .i64 ((a + 1 : Nat)), .int .u64 (srN xs (a + 1))]⟩) (List.getElem?_set_self hlt) (h.set hp hne) hb hl (by omega)
  have e3 : srO xs (a + 1) (srN xs (a + 1)) = srA xs (a + 1) := rfl
  have e4 : srS (srN xs (a + 1)) (srB xs (a + 1)) = srN xs (a + 2) := rfl
  rw [e3, e4, List.set_set] at c2
  have e5 : (srA xs a * 256 + srA xs (a + 1)).tmod n = pk2 xs a n := rfl
  (refine FunH_body tyOk Try.func18 rfl (by kernel_rfl) Try.ntmps18 (fun hcl hbd => ?_); simp only [List.length_cons, List.length_nil, Nat.reduceAdd, Nat.reduceSub, List.replicate, List.cons_append, List.nil_append])
  repeat' (first
 | ((with_reducible refine hK _ _ ?_); clear hK K)
 | ((first | (with_reducible show AOp _ _ _ _ _ _ _)); simp (disch := first | ((with_reducible show liveO _ _ _ = true); first | assumption | (exact liveO_setS (by assumption)) | (exact PtL.live (by assumption)) | (exact PtL.liveA (by assumption) _) | (simp only [go_sem]; done)) | omega | assumption | rfl | (simp only [go_sem]; first | done | omega)) only [go_sem, reduceIte, reduceCtorEq, Nat.reduceAdd, Nat.reduceMul, Nat.reduceSub, Nat.reduceLeDiff, Nat.lt_irrefl, Nat.reduceLT, Nat.reduceEqDiff, Nat.reduceBEq, Int.reduceLE, Int.reduceLT, Int.reduceToNat, w64, eq_self, hn0, hw1, hw2, e5])
 | (with_reducible refine AW_seq (fun K hK => ?_))
 | (with_reducible refine AW_region tyOk ?_)
 | (with_reducible refine AOps_cons (fun K hK => ?_))
 | ((with_reducible refine AOps_nil ?_); try simp only [thenA, blockA, if_true, if_false, reduceIte, Nat.reduceEqDiff, reduceCtorEq])
 | (with_reducible refine AW_block ?_)
 | ((first | (with_reducible refine AW_ret ?_) | (with_reducible refine AW_skip ?_) | (with_reducible refine AW_exit ?_)); try simp only [thenA, blockA, if_true, if_false, reduceIte, Nat.reduceEqDiff, reduceCtorEq])
 | ((with_reducible show AW _ _ (.cond _ _ _) _ _ _); refine AW_cond rfl (fun hg => ?_) (fun hg => ?_) <;> first | (exfalso; simp only [reduceCtorEq] at hg; done) | ((try simp only [Bool.not_eq_true', Bool.not_eq_false', decide_eq_true_eq, decide_eq_false_iff_not] at hg); try (exfalso; omega)))
 | ((with_reducible show _ ∧ _); refine And.intro (fun hg => ?_) (fun hg => ?_) <;> (try simp only [Bool.not_eq_true', Bool.not_eq_false'] at hg) <;> simp only [hg] <;> (try simp only [decide_eq_true_eq, decide_eq_false_iff_not] at hg) <;> (try (exfalso; omega)))
 | ((with_reducible apply FunH_intro); (first | exact c1 | exact c2))
 | (clear hK K)
    | fail)
  all_goals try (exfalso; omega)
  all_goals (first | refine EndA_cut hcl (by first | exact Or.inr rfl | exact Or.inl rfl) (by simp only [Try.results18, resA, aresL, go_sem, reduceIte, reduceCtorEq, Nat.reduceAdd, Nat.reduceMul, Nat.reduceSub, Nat.reduceLeDiff, Nat.lt_irrefl, Nat.reduceLT, Nat.reduceEqDiff, Nat.reduceBEq, Int.reduceLE, Int.reduceLT, Int.reduceToNat, w64, eq_self] <;> rfl) rfl ?_ | refine EndA_same (by first | exact Or.inr rfl | exact Or.inl rfl) (by simp only [Try.results18, resA, aresL, go_sem, reduceIte, reduceCtorEq, Nat.reduceAdd, Nat.reduceMul, Nat.reduceSub, Nat.reduceLeDiff, Nat.lt_irrefl, Nat.reduceLT, Nat.reduceEqDiff, Nat.reduceBEq, Int.reduceLE, Int.reduceLT, Int.reduceToNat, w64, eq_self] <;> rfl) ?_)
  all_goals exact ⟨rfl, rfl⟩
def r8V (xs : List Int) : Nat → Int
  | 0 => (srA xs 0).tmod 100
  | k + 1 => r8V xs k + (1 + pk2 xs (1 + 2 * k) 1000000)
def r8D (xs : List Int) (n : Nat) : List Int := (List.range n).map (r8V xs)
theorem r8D_len (xs : List Int) (n : Nat) : (r8D xs n).length = n := by simp [r8D]
theorem r8D_succ (xs : List Int) (n : Nat) : r8D xs (n + 1) = r8D xs n ++ [r8V xs n] := by simp [r8D, List.range_succ]
theorem r8V_in {xs : List Int} (h : byB xs) : ∀ k, 0 ≤ r8V xs k ∧ r8V xs k ≤ 100 + 1000000 * (k : Nat)
  | 0 => by
    have h1 := srA_in h 0
    have := tmod_in h1.1 (n := 100) (by omega)
    unfold r8V; omega
  | k + 1 => by
    have := r8V_in h k
    have h1 := pk2_in h (1 + 2 * k) (n := 1000000) (by omega)
    show 0 ≤ r8V xs k + (1 + pk2 xs (1 + 2 * k) 1000000) ∧ r8V xs k + (1 + pk2 xs (1 + 2 * k) 1000000) ≤ _
    omega
theorem r8V_lt {xs : List Int} (h : byB xs) {i : Nat} : ∀ j, i < j → r8V xs i < r8V xs j
  | 0, hj => absurd hj (Nat.not_lt_zero _)
  | j + 1, hj => by
    have h1 := pk2_in h (1 + 2 * j) (n := 1000000) (by omega)
    show r8V xs i < r8V xs j + (1 + pk2 xs (1 + 2 * j) 1000000)
    rcases Nat.lt_or_ge i j with h2 | h2
    · have := r8V_lt h j h2; omega
    · obtain rfl : i = j := by omega
      omega
end Go.Proofs.Ytpbafacehmjdmaa
