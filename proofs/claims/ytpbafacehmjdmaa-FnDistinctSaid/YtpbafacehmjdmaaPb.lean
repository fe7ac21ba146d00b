/- Bytes that choose, in the abstract machine: what the property laws are drawn from. -/
import Derived.Test.YtpbafacehmjdmaaZn
import Derived.Test.YtpbafacehmjdmaaZo
namespace Go.Proofs.Ytpbafacehmjdmaa
open Go.RowKit
set_option linter.unusedSimpArgs false
set_option linter.unusedVariables false
set_option maxRecDepth 100000

theorem lt_getF' {α : Type} {xs : List α} {i : Nat} {b : α} (h : xs[i]? = some b) : i < xs.length := by
  rcases Nat.lt_or_ge i xs.length with h' | h'
  · exact h'
  · rw [List.getElem?_eq_none h'] at h; cases h
theorem hget_at' {H : Hp} {id ver el sz off : Nat} {ro : Bool} {cs : List LV} (h : H[id]? = some ⟨ver, ro, el, sz, cs⟩) : hget H id ver off = cs[off]? := by simp [hget, h]
theorem liveO_at' {H : Hp} {id ver el sz : Nat} {ro : Bool} {cs : List LV} (h : H[id]? = some ⟨ver, ro, el, sz, cs⟩) : liveO H id ver = true := by simp [liveO, h]
theorem hputA_at' {H : Hp} {id ver el sz off : Nat} {cs ys : List LV} (h : H[id]? = some ⟨ver, false, el, sz, cs⟩) (h1 : off + ys.length ≤ cs.length) : hput H id ver off ys = some (H.set id ⟨ver, false, el, sz, sets cs off ys⟩) := by
  simp [hput, h, h1]
/-- All are bytes. -/
def byB (xs : List Int) : Prop := ∀ y ∈ xs, 0 ≤ y ∧ y ≤ 255
theorem byB.at {xs : List Int} (h : byB xs) {k : Nat} (hk : k < xs.length) : 0 ≤ ix xs k ∧ ix xs k ≤ 255 := h _ (ix_mem xs k hk)
theorem tmod_in {a n : Int} (ha : 0 ≤ a) (hn : 1 ≤ n) : 0 ≤ a.tmod n ∧ a.tmod n < n := ⟨Int.tmod_nonneg _ ha, Int.tmod_lt_of_pos _ (by omega)⟩
def bAt (xs : List Int) (i : Nat) (n : Int) : Int := if n ≤ 1 then 0 else if i < xs.length then (ix xs i).tmod n else (((i : Int) * 37 + 11)).tmod n
theorem bAt_in {xs : List Int} (h : byB xs) (i : Nat) {n : Int} (hn : 1 ≤ n) : 0 ≤ bAt xs i n ∧ bAt xs i n < n := by
  unfold bAt
  split
  · omega
  · split
    · rename_i hk
      exact tmod_in (h.at hk).1 hn
    · exact tmod_in (by omega) hn
def rAt (xs : List Int) (i : Nat) (n : Int) : Int := if n ≤ 1 then 0 else if i < xs.length then (ix xs i).tmod n else 0
theorem rAt_in {xs : List Int} (h : byB xs) (i : Nat) {n : Int} (hn : 1 ≤ n) : 0 ≤ rAt xs i n ∧ rAt xs i n < n := by
  unfold rAt
  split
  · omega
  · split
    · rename_i hk
      exact tmod_in (h.at hk).1 hn
    · omega
theorem r8At_c (lv : LV) (xs : List Int) (i : Nat) (n : Int) (H : Hp) (h : RdL H lv (xs.map (LV.int .u8))) (hb : byB xs) (hl : xs.length ≤ 9223372036854775807) (hi : i ≤ 1000) (hn : 0 ≤ n ∧ n ≤ 4294967296) : FunH Try.prog 6 [lv, .int .i64 (i : Nat), .int .i64 n] H fun r H' => r = .int .i64 (rAt xs i n) ∧ H' = H := by
  unfold rAt
  by_cases h1 : n ≤ 1
  · rw [if_pos h1]
    (refine FunH_body tyOk Try.func6 rfl (by kernel_rfl) Try.ntmps6 (fun hcl hbd => ?_); simp only [List.length_cons, List.length_nil, Nat.reduceAdd, Nat.reduceSub, List.replicate, List.cons_append, List.nil_append])
    repeat' (first
      | ((with_reducible refine hK _ _ ?_); clear hK K)
      | ((first | (with_reducible show AOp _ _ _ _ _ _ _)); simp (disch := first | ((with_reducible show liveO _ _ _ = true); first | assumption | (exact liveO_setS (by assumption)) | (exact PtL.live (by assumption)) | (exact PtL.liveA (by assumption) _) | (simp only [go_sem]; done)) | omega | assumption | rfl | (simp only [go_sem]; first | done | omega)) only [go_sem, reduceIte, reduceCtorEq, Nat.reduceAdd, Nat.reduceMul, Nat.reduceSub, Nat.reduceLeDiff, Nat.lt_irrefl, Nat.reduceLT, Nat.reduceEqDiff, Nat.reduceBEq, Int.reduceLE, Int.reduceLT, Int.reduceToNat, w64, eq_self, h.lenm])
      | (with_reducible refine AW_seq (fun K hK => ?_))
      | (with_reducible refine AW_region tyOk ?_)
      | (with_reducible refine AOps_cons (fun K hK => ?_))
      | ((with_reducible refine AOps_nil ?_); try simp only [thenA, blockA, if_true, if_false, reduceIte, Nat.reduceEqDiff, reduceCtorEq])
      | (with_reducible refine AW_block ?_)
      | ((first | (with_reducible refine AW_ret ?_) | (with_reducible refine AW_skip ?_) | (with_reducible refine AW_exit ?_)); try simp only [thenA, blockA, if_true, if_false, reduceIte, Nat.reduceEqDiff, reduceCtorEq])
      | ((with_reducible show AW _ _ (.cond _ _ _) _ _ _); refine AW_cond rfl (fun hg => ?_) (fun hg => ?_) <;> first | (exfalso; simp only [reduceCtorEq] at hg; done) | ((try simp only [Bool.not_eq_true', Bool.not_eq_false', decide_eq_true_eq, decide_eq_false_iff_not] at hg); try (exfalso; omega)))
      | ((with_reducible show _ ∧ _); refine And.intro (fun hg => ?_) (fun hg => ?_) <;> (try simp only [Bool.not_eq_true', Bool.not_eq_false'] at hg) <;> simp only [hg] <;> (try simp only [decide_eq_true_eq, decide_eq_false_iff_not] at hg) <;> (try (exfalso; omega)))
      | (clear hK K)
      | fail)
    all_goals (first | refine EndA_cut hcl (by first | exact Or.inr rfl | exact Or.inl rfl) (by simp only [Try.results6, resA, aresL, go_sem, reduceIte, reduceCtorEq, Nat.reduceAdd, Nat.reduceMul, Nat.reduceSub, Nat.reduceLeDiff, Nat.lt_irrefl, Nat.reduceLT, Nat.reduceEqDiff, Nat.reduceBEq, Int.reduceLE, Int.reduceLT, Int.reduceToNat, w64, eq_self] <;> rfl) rfl ?_ | refine EndA_same (by first | exact Or.inr rfl | exact Or.inl rfl) (by simp only [Try.results6, resA, aresL, go_sem, reduceIte, reduceCtorEq, Nat.reduceAdd, Nat.reduceMul, Nat.reduceSub, Nat.reduceLeDiff, Nat.lt_irrefl, Nat.reduceLT, Nat.reduceEqDiff, Nat.reduceBEq, Int.reduceLE, Int.reduceLT, Int.reduceToNat, w64, eq_self] <;> rfl) ?_)
    all_goals exact ⟨rfl, rfl⟩
  rw [if_neg h1]
  have hn0 : ¬ n = 0 := by omega
  by_cases hk : i < xs.length
  · rw [if_pos hk]
    obtain ⟨q1, q2⟩ := hb.at hk
    (refine FunH_body tyOk Try.func6 rfl (by kernel_rfl) Try.ntmps6 (fun hcl hbd => ?_); simp only [List.length_cons, List.length_nil, Nat.reduceAdd, Nat.reduceSub, List.replicate, List.cons_append, List.nil_append])
    repeat' (first
      | ((with_reducible refine hK _ _ ?_); clear hK K)
      | ((first | (with_reducible show AOp _ _ _ _ _ _ _)); simp (disch := first | ((with_reducible show liveO _ _ _ = true); first | assumption | (exact liveO_setS (by assumption)) | (exact PtL.live (by assumption)) | (exact PtL.liveA (by assumption) _) | (simp only [go_sem]; done)) | omega | assumption | rfl | (simp only [go_sem]; first | done | omega)) only [go_sem, reduceIte, reduceCtorEq, Nat.reduceAdd, Nat.reduceMul, Nat.reduceSub, Nat.reduceLeDiff, Nat.lt_irrefl, Nat.reduceLT, Nat.reduceEqDiff, Nat.reduceBEq, Int.reduceLE, Int.reduceLT, Int.reduceToNat, w64, eq_self, h.lenm, h.idxm, h.ldm, hn0])
      | (with_reducible refine AW_seq (fun K hK => ?_))
      | (with_reducible refine AW_region tyOk ?_)
      | (with_reducible refine AOps_cons (fun K hK => ?_))
      | ((with_reducible refine AOps_nil ?_); try simp only [thenA, blockA, if_true, if_false, reduceIte, Nat.reduceEqDiff, reduceCtorEq])
      | (with_reducible refine AW_block ?_)
      | ((first | (with_reducible refine AW_ret ?_) | (with_reducible refine AW_skip ?_) | (with_reducible refine AW_exit ?_)); try simp only [thenA, blockA, if_true, if_false, reduceIte, Nat.reduceEqDiff, reduceCtorEq])
      | ((with_reducible show AW _ _ (.cond _ _ _) _ _ _); refine AW_cond rfl (fun hg => ?_) (fun hg => ?_) <;> first | (exfalso; simp only [reduceCtorEq] at hg; done) | ((try simp only [Bool.not_eq_true', Bool.not_eq_false', decide_eq_true_eq, decide_eq_false_iff_not] at hg); try (exfalso; omega)))
      | ((with_reducible show _ ∧ _); refine And.intro (fun hg => ?_) (fun hg => ?_) <;> (try simp only [Bool.not_eq_true', Bool.not_eq_false'] at hg) <;> simp only [hg] <;> (try simp only [decide_eq_true_eq, decide_eq_false_iff_not] at hg) <;> (try (exfalso; omega)))
      | (clear hK K)
      | fail)
    all_goals (first | refine EndA_cut hcl (by first | exact Or.inr rfl | exact Or.inl rfl) (by simp only [Try.results6, resA, aresL, go_sem, reduceIte, reduceCtorEq, Nat.reduceAdd, Nat.reduceMul, Nat.reduceSub, Nat.reduceLeDiff, Nat.lt_irrefl, Nat.reduceLT, Nat.reduceEqDiff, Nat.reduceBEq, Int.reduceLE, Int.reduceLT, Int.reduceToNat, w64, eq_self] <;> rfl) rfl ?_ | refine EndA_same (by first | exact Or.inr rfl | exact Or.inl rfl) (by simp only [Try.results6, resA, aresL, go_sem, reduceIte, reduceCtorEq, Nat.reduceAdd, Nat.reduceMul, Nat.reduceSub, Nat.reduceLeDiff, Nat.lt_irrefl, Nat.reduceLT, Nat.reduceEqDiff, Nat.reduceBEq, Int.reduceLE, Int.reduceLT, Int.reduceToNat, w64, eq_self] <;> rfl) ?_)
    all_goals exact ⟨rfl, rfl⟩
  · rw [if_neg hk]
    (refine FunH_body tyOk Try.func6 rfl (by kernel_rfl) Try.ntmps6 (fun hcl hbd => ?_); simp only [List.length_cons, List.length_nil, Nat.reduceAdd, Nat.reduceSub, List.replicate, List.cons_append, List.nil_append])
    repeat' (first
      | ((with_reducible refine hK _ _ ?_); clear hK K)
      | ((first | (with_reducible show AOp _ _ _ _ _ _ _)); simp (disch := first | ((with_reducible show liveO _ _ _ = true); first | assumption | (exact liveO_setS (by assumption)) | (exact PtL.live (by assumption)) | (exact PtL.liveA (by assumption) _) | (simp only [go_sem]; done)) | omega | assumption | rfl | (simp only [go_sem]; first | done | omega)) only [go_sem, reduceIte, reduceCtorEq, Nat.reduceAdd, Nat.reduceMul, Nat.reduceSub, Nat.reduceLeDiff, Nat.lt_irrefl, Nat.reduceLT, Nat.reduceEqDiff, Nat.reduceBEq, Int.reduceLE, Int.reduceLT, Int.reduceToNat, w64, eq_self, h.lenm, hn0])
      | (with_reducible refine AW_seq (fun K hK => ?_))
      | (with_reducible refine AW_region tyOk ?_)
      | (with_reducible refine AOps_cons (fun K hK => ?_))
      | ((with_reducible refine AOps_nil ?_); try simp only [thenA, blockA, if_true, if_false, reduceIte, Nat.reduceEqDiff, reduceCtorEq])
      | (with_reducible refine AW_block ?_)
      | ((first | (with_reducible refine AW_ret ?_) | (with_reducible refine AW_skip ?_) | (with_reducible refine AW_exit ?_)); try simp only [thenA, blockA, if_true, if_false, reduceIte, Nat.reduceEqDiff, reduceCtorEq])
      | ((with_reducible show AW _ _ (.cond _ _ _) _ _ _); refine AW_cond rfl (fun hg => ?_) (fun hg => ?_) <;> first | (exfalso; simp only [reduceCtorEq] at hg; done) | ((try simp only [Bool.not_eq_true', Bool.not_eq_false', decide_eq_true_eq, decide_eq_false_iff_not] at hg); try (exfalso; omega)))
      | ((with_reducible show _ ∧ _); refine And.intro (fun hg => ?_) (fun hg => ?_) <;> (try simp only [Bool.not_eq_true', Bool.not_eq_false'] at hg) <;> simp only [hg] <;> (try simp only [decide_eq_true_eq, decide_eq_false_iff_not] at hg) <;> (try (exfalso; omega)))
      | (clear hK K)
      | fail)
    all_goals (first | refine EndA_cut hcl (by first | exact Or.inr rfl | exact Or.inl rfl) (by simp only [Try.results6, resA, aresL, go_sem, reduceIte, reduceCtorEq, Nat.reduceAdd, Nat.reduceMul, Nat.reduceSub, Nat.reduceLeDiff, Nat.lt_irrefl, Nat.reduceLT, Nat.reduceEqDiff, Nat.reduceBEq, Int.reduceLE, Int.reduceLT, Int.reduceToNat, w64, eq_self] <;> rfl) rfl ?_ | refine EndA_same (by first | exact Or.inr rfl | exact Or.inl rfl) (by simp only [Try.results6, resA, aresL, go_sem, reduceIte, reduceCtorEq, Nat.reduceAdd, Nat.reduceMul, Nat.reduceSub, Nat.reduceLeDiff, Nat.lt_irrefl, Nat.reduceLT, Nat.reduceEqDiff, Nat.reduceBEq, Int.reduceLE, Int.reduceLT, Int.reduceToNat, w64, eq_self] <;> rfl) ?_)
    all_goals exact ⟨rfl, rfl⟩
theorem long48_c (lv mv : LV) (xs ys : List Int) (H : Hp) (h : RdL H lv (xs.map (LV.int .u8))) (h' : RdL H mv (ys.map (LV.int .u8))) : FunH Try.prog 4 [lv, mv] H fun r H' => r = .bool (decide (48 < xs.length) || decide (48 < ys.length)) ∧ H' = H := by
  (refine FunH_body tyOk Try.func4 rfl (by kernel_rfl) Try.ntmps4 (fun hcl hbd => ?_); simp only [List.length_cons, List.length_nil, Nat.reduceAdd, Nat.reduceSub, List.replicate, List.cons_append, List.nil_append])
  repeat' (first
    | ((with_reducible refine hK _ _ ?_); clear hK K)
    | ((first | (with_reducible show AOp _ _ _ _ _ _ _)); simp (disch := first | ((with_reducible show liveO _ _ _ = true); first | assumption | (exact liveO_setS (by assumption)) | (exact PtL.live (by assumption)) | (exact PtL.liveA (by assumption) _) | (simp only [go_sem]; done)) | omega | assumption | rfl | (simp only [go_sem]; first | done | omega)) only [go_sem, reduceIte, reduceCtorEq, Nat.reduceAdd, Nat.reduceMul, Nat.reduceSub, Nat.reduceLeDiff, Nat.lt_irrefl, Nat.reduceLT, Nat.reduceEqDiff, Nat.reduceBEq, Int.reduceLE, Int.reduceLT, Int.reduceToNat, w64, eq_self, h.lenm, h'.lenm])
    | (with_reducible refine AW_seq (fun K hK => ?_))
    | (with_reducible refine AW_region tyOk ?_)
    | (with_reducible refine AOps_cons (fun K hK => ?_))
    | ((with_reducible refine AOps_nil ?_); try simp only [thenA, blockA, if_true, if_false, reduceIte, Nat.reduceEqDiff, reduceCtorEq])
    | (with_reducible refine AW_block ?_)
    | ((first | (with_reducible refine AW_ret ?_) | (with_reducible refine AW_skip ?_) | (with_reducible refine AW_exit ?_)); try simp only [thenA, blockA, if_true, if_false, reduceIte, Nat.reduceEqDiff, reduceCtorEq])
    | ((with_reducible show AW _ _ (.cond _ _ _) _ _ _); refine AW_cond rfl (fun hg => ?_) (fun hg => ?_) <;> first | (exfalso; simp only [reduceCtorEq] at hg; done) | ((try simp only [Bool.not_eq_true', Bool.not_eq_false', decide_eq_true_eq, decide_eq_false_iff_not] at hg); try (exfalso; omega)))
    | ((with_reducible show _ ∧ _); refine And.intro (fun hg => ?_) (fun hg => ?_) <;> (try simp only [Bool.not_eq_true', Bool.not_eq_false'] at hg) <;> simp only [hg] <;> (try simp only [decide_eq_true_eq, decide_eq_false_iff_not] at hg) <;> (try (exfalso; omega)))
    | (clear hK K)
    | fail)
  all_goals (first | refine EndA_cut hcl (by first | exact Or.inr rfl | exact Or.inl rfl) (by simp only [Try.results4, resA, aresL, go_sem, reduceIte, reduceCtorEq, Nat.reduceAdd, Nat.reduceMul, Nat.reduceSub, Nat.reduceLeDiff, Nat.lt_irrefl, Nat.reduceLT, Nat.reduceEqDiff, Nat.reduceBEq, Int.reduceLE, Int.reduceLT, Int.reduceToNat, w64, eq_self] <;> rfl) rfl ?_ | refine EndA_same (by first | exact Or.inr rfl | exact Or.inl rfl) (by simp only [Try.results4, resA, aresL, go_sem, reduceIte, reduceCtorEq, Nat.reduceAdd, Nat.reduceMul, Nat.reduceSub, Nat.reduceLeDiff, Nat.lt_irrefl, Nat.reduceLT, Nat.reduceEqDiff, Nat.reduceBEq, Int.reduceLE, Int.reduceLT, Int.reduceToNat, w64, eq_self] <;> rfl) ?_)
  all_goals (refine ⟨congrArg LV.bool ?_, rfl⟩; first | rfl | (grind))
/-! A source of choices. -/
def srB (xs : List Int) (a : Nat) : Int := if a < xs.length then ix xs a else 0
def srS (seed b : Int) : Int := IntKind.u64.wrap (IntKind.u64.wrap (IntKind.u64.wrap (seed * 6364136223846793005) + b) + 1442695040888963407)
def srL (s : Int) : Int := ibits .and .u64 (s.fdiv (2 ^ min 40 64)) 255
/-- What the source gives at a place. -/
def srO (xs : List Int) (a : Nat) (seed : Int) : Int := if a < xs.length then srB xs a else srL (srS seed (srB xs a))
theorem srB_in {xs : List Int} (h : byB xs) (a : Nat) : 0 ≤ srB xs a ∧ srB xs a ≤ 255 := by
  unfold srB
  split
  · rename_i hk; exact h.at hk
  · omega
theorem srL_in (s : Int) : 0 ≤ srL s ∧ srL s ≤ 255 := by
  unfold srL
  have e0 : ∀ x : Int, ibits .and .u64 x 255 = IntKind.u64.wrap ((BitVec.ofInt 64 x &&& BitVec.ofInt 64 255).toNat : Int) := fun _ => rfl
  rw [e0]
  have h : (BitVec.ofInt 64 (s.fdiv (2 ^ min 40 64)) &&& BitVec.ofInt 64 255).toNat ≤ 255 := by
    rw [BitVec.toNat_and]
    exact Nat.le_trans Nat.and_le_right (by decide)
  generalize (BitVec.ofInt 64 (s.fdiv (2 ^ min 40 64)) &&& BitVec.ofInt 64 255).toNat = m at h
  simp [IntKind.wrap, IntKind.bits, IntKind.signed]; omega
theorem srO_in {xs : List Int} (h : byB xs) (a : Nat) (seed : Int) : 0 ≤ srO xs a seed ∧ srO xs a seed ≤ 255 := by
  unfold srO
  split
  · exact srB_in h a
  · exact srL_in _
/-- The seed, when so many choices were made. -/
def srN (xs : List Int) : Nat → Int
  | 0 => 0
  | a + 1 => srS (srN xs a) (srB xs a)
def srA (xs : List Int) (a : Nat) : Int := srO xs a (srN xs a)
theorem srA_in {xs : List Int} (h : byB xs) (a : Nat) : 0 ≤ srA xs a ∧ srA xs a ≤ 255 := srO_in h a _
theorem l00From_c (lv : LV) (xs : List Int) (H : Hp) (h : RdL H lv (xs.map (LV.int .u8))) : FunH Try.prog 17 [lv] H fun r H' => r = .ptr H.length 0 0 ∧ H' = H ++ [⟨0, false, 62, 3, [lv, .int .i64 0, .int .u64 0]⟩] := by
  (refine FunH_body tyOk Try.func17 rfl (by kernel_rfl) Try.ntmps17 (fun hcl hbd => ?_); simp only [List.length_cons, List.length_nil, Nat.reduceAdd, Nat.reduceSub, List.replicate, List.cons_append, List.nil_append])
  repeat' (first
    | ((with_reducible refine hK _ _ ?_); clear hK K)
    | ((first | (with_reducible show AOp _ _ _ _ _ _ _)); simp (disch := first | ((with_reducible show liveO _ _ _ = true); first | assumption | (exact liveO_setS (by assumption)) | (exact PtL.live (by assumption)) | (exact PtL.liveA (by assumption) _) | (simp only [go_sem]; done)) | omega | assumption | rfl | (simp only [go_sem]; first | done | omega)) only [go_sem, reduceIte, reduceCtorEq, Nat.reduceAdd, Nat.reduceMul, Nat.reduceSub, Nat.reduceLeDiff, Nat.lt_irrefl, Nat.reduceLT, Nat.reduceEqDiff, Nat.reduceBEq, Int.reduceLE, Int.reduceLT, Int.reduceToNat, w64, eq_self, h.isCell, h.cellsL, h.lenm])
    | (with_reducible refine AW_seq (fun K hK => ?_))
    | (with_reducible refine AW_region tyOk ?_)
    | (with_reducible refine AOps_cons (fun K hK => ?_))
    | ((with_reducible refine AOps_nil ?_); try simp only [thenA, blockA, if_true, if_false, reduceIte, Nat.reduceEqDiff, reduceCtorEq])
    | (with_reducible refine AW_block ?_)
    | ((first | (with_reducible refine AW_ret ?_) | (with_reducible refine AW_skip ?_) | (with_reducible refine AW_exit ?_)); try simp only [thenA, blockA, if_true, if_false, reduceIte, Nat.reduceEqDiff, reduceCtorEq])
    | ((with_reducible show AW _ _ (.cond _ _ _) _ _ _); refine AW_cond rfl (fun hg => ?_) (fun hg => ?_) <;> first | (exfalso; simp only [reduceCtorEq] at hg; done) | ((try simp only [Bool.not_eq_true', Bool.not_eq_false', decide_eq_true_eq, decide_eq_false_iff_not] at hg); try (exfalso; omega)))
    | ((with_reducible show _ ∧ _); refine And.intro (fun hg => ?_) (fun hg => ?_) <;> (try simp only [Bool.not_eq_true', Bool.not_eq_false'] at hg) <;> simp only [hg] <;> (try simp only [decide_eq_true_eq, decide_eq_false_iff_not] at hg) <;> (try (exfalso; omega)))
    | (clear hK K)
    | fail)
  all_goals refine EndA_same (by first | exact Or.inr rfl | exact Or.inl rfl) (by simp only [Try.results17, resA, aresL, go_sem] <;> rfl) ?_
  all_goals exact ⟨rfl, rfl⟩
theorem wrapu_id {x : Int} (h0 : 0 ≤ x) (h1 : x < 18446744073709551616) : IntKind.u64.wrap x = x := by
  simp [IntKind.wrap, IntKind.bits, IntKind.signed]; omega
theorem srL_wrap (s : Int) : IntKind.i64.wrap (ibits .and .u64 (s.fdiv (2 ^ min 40 64)) 255) = srL s := by
  have h := srL_in s
  rw [IntKind.wrap_i64]
  show (srL s + _) % _ - _ = srL s
  omega
theorem srS_in (s b : Int) : 0 ≤ srS s b ∧ srS s b < 18446744073709551616 := by
  unfold srS
  generalize IntKind.u64.wrap (IntKind.u64.wrap (s * 6364136223846793005) + b) + 1442695040888963407 = x
  simp [IntKind.wrap, IntKind.bits, IntKind.signed]; omega
theorem srN_in (xs : List Int) : ∀ a, 0 ≤ srN xs a ∧ srN xs a < 18446744073709551616
  | 0 => ⟨Int.le_refl _, by show (0 : Int) < _; decide⟩
  | _ + 1 => srS_in _ _
theorem set_self' {H : Hp} {i : Nat} {o : AO} (h : H[i]? = some o) : H.set i o = H := by
  apply List.ext_getElem?; intro j
  rw [List.getElem?_set]
  split
  · rename_i e; subst e; rw [h]; simp [lt_getF' h]
  · rfl
set_option maxHeartbeats 2000000 in
theorem next_c (id ver el : Nat) (lv : LV) (xs : List Int) (a : Nat) (seed : Int) (H : Hp) (hp : H[id]? = some ⟨ver, false, el, 3, [lv, .int .i64 (a : Nat), .int .u64 seed]⟩) (h : RdL H lv (xs.map (LV.int .u8))) (hb : byB xs) (hl : xs.length ≤ 9223372036854775807) (ha : a ≤ 1000000) :
    FunH Try.prog 35 [.ptr id ver 0] H fun r H' => r = .int .i64 (srO xs a seed) ∧ H' = H.set id ⟨ver, false, el, 3, [lv, .int .i64 ((a + 1 : Nat)), .int .u64 (srS seed (srB xs a))]⟩ := by
  have hlt := lt_getF' hp
  have hlive := liveO_at' hp
  have e1 : srS seed (srB xs a) = IntKind.u64.wrap (IntKind.u64.wrap (IntKind.u64.wrap (seed * 6364136223846793005) + srB xs a) + 1442695040888963407) := rfl
  obtain ⟨s, hs⟩ : ∃ s, srS seed (srB xs a) = s := ⟨_, rfl⟩
  rw [hs] at e1
  unfold srO
  rw [hs]
  have hw := srL_wrap s
  have c1 : ((a : Nat) : Int) + 1 = ((a + 1 : Nat) : Int) := by omega
  by_cases hk : a < xs.length
  · obtain ⟨q1, q2⟩ := hb.at hk
    have e2 : srB xs a = ix xs a := if_pos hk
    have hwb : IntKind.u64.wrap (ix xs a) = ix xs a := wrapu_id q1 (by omega)
    rw [if_pos hk]
    rw [e2] at e1 ⊢
    (refine FunH_body tyOk Try.func35 rfl (by kernel_rfl) Try.ntmps35 (fun hcl hbd => ?_); simp only [List.length_cons, List.length_nil, Nat.reduceAdd, Nat.reduceSub, List.replicate, List.cons_append, List.nil_append])
    repeat' (first
      | ((with_reducible refine hK _ _ ?_); clear hK K)
      | ((with_reducible refine hK _ ?_); clear hK K; try simp only [])
      | ((first | (with_reducible show AOp _ _ _ _ _ _ _) | (with_reducible show AQOp _ _ _ _ _ _ _)); simp (disch := first | ((with_reducible show liveO _ _ _ = true); first | assumption | (exact liveO_setS (by assumption)) | (exact PtL.live (by assumption)) | (exact PtL.liveA (by assumption) _) | (simp only [go_sem]; done)) | omega | assumption | rfl | (simp only [go_sem]; first | done | omega)) only [go_sem, reduceIte, reduceCtorEq, Nat.reduceAdd, Nat.reduceMul, Nat.reduceSub, Nat.reduceLeDiff, Nat.lt_irrefl, Nat.reduceLT, Nat.reduceEqDiff, Nat.reduceBEq, Int.reduceLE, Int.reduceLT, Int.reduceToNat, w64, eq_self, hget_at' hp, hputA_at' hp, h.lenm, h.idxm, h.ldm, hlt, hwb, ← e1, c1, hw])
      | (with_reducible refine AW_seq (fun K hK => ?_))
      | (with_reducible refine AW_region tyOk ?_)
      | ((with_reducible refine AW_quiet (id := 2) tyOk ?_ ?_ ?_); (kernel_rfl); (kernel_rfl))
      | ((with_reducible refine AW_quiet (id := 3) tyOk ?_ ?_ ?_); (kernel_rfl); (kernel_rfl))
      | ((with_reducible refine AW_quiet (id := 6) tyOk ?_ ?_ ?_); (kernel_rfl); (kernel_rfl))
      | (with_reducible refine AOps_cons (fun K hK => ?_))
      | (with_reducible refine AQOps_cons (fun K hK => ?_))
      | ((with_reducible refine AQOps_nil ?_); try simp only [thenA, blockA, if_true, if_false, reduceIte, Nat.reduceEqDiff, reduceCtorEq])
      | ((with_reducible refine AOps_nil ?_); try simp only [thenA, blockA, if_true, if_false, reduceIte, Nat.reduceEqDiff, reduceCtorEq])
      | (with_reducible refine AW_block ?_)
      | ((first | (with_reducible refine AW_ret ?_) | (with_reducible refine AW_skip ?_) | (with_reducible refine AW_exit ?_)); try simp only [thenA, blockA, if_true, if_false, reduceIte, Nat.reduceEqDiff, reduceCtorEq])
      | ((with_reducible show AW _ _ (.cond _ _ _) _ _ _); refine AW_cond rfl (fun hg => ?_) (fun hg => ?_) <;> first | (exfalso; simp only [reduceCtorEq] at hg; done) | ((try simp only [Bool.not_eq_true', Bool.not_eq_false', decide_eq_true_eq, decide_eq_false_iff_not] at hg); try (exfalso; omega)))
      | ((with_reducible show _ ∧ _); refine And.intro (fun hg => ?_) (fun hg => ?_) <;> (try simp only [Bool.not_eq_true', Bool.not_eq_false'] at hg) <;> simp only [hg] <;> (try simp only [decide_eq_true_eq, decide_eq_false_iff_not] at hg) <;> (try (exfalso; omega)))
      | (clear hK K)
      | fail)
    all_goals (first | refine EndA_cut hcl (by first | exact Or.inr rfl | exact Or.inl rfl) (by simp only [Try.results35, resA, aresL, go_sem, reduceIte, reduceCtorEq, Nat.reduceAdd, Nat.reduceMul, Nat.reduceSub, Nat.reduceLeDiff, Nat.lt_irrefl, Nat.reduceLT, Nat.reduceEqDiff, Nat.reduceBEq, Int.reduceLE, Int.reduceLT, Int.reduceToNat, w64, eq_self] <;> rfl) rfl ?_ | refine EndA_same (by first | exact Or.inr rfl | exact Or.inl rfl) (by simp only [Try.results35, resA, aresL, go_sem, reduceIte, reduceCtorEq, Nat.reduceAdd, Nat.reduceMul, Nat.reduceSub, Nat.reduceLeDiff, Nat.lt_irrefl, Nat.reduceLT, Nat.reduceEqDiff, Nat.reduceBEq, Int.reduceLE, Int.reduceLT, Int.reduceToNat, w64, eq_self] <;> rfl) ?_)
    all_goals exact ⟨rfl, rfl⟩
  · have e2 : srB xs a = 0 := if_neg hk
    have hwb : IntKind.u64.wrap 0 = 0 := wrapu_id (by omega) (by omega)
    rw [if_neg hk]
    rw [e2] at e1
    (refine FunH_body tyOk Try.func35 rfl (by kernel_rfl) Try.ntmps35 (fun hcl hbd => ?_); simp only [List.length_cons, List.length_nil, Nat.reduceAdd, Nat.reduceSub, List.replicate, List.cons_append, List.nil_append])
    repeat' (first
      | ((with_reducible refine hK _ _ ?_); clear hK K)
      | ((with_reducible refine hK _ ?_); clear hK K; try simp only [])
      | ((first | (with_reducible show AOp _ _ _ _ _ _ _) | (with_reducible show AQOp _ _ _ _ _ _ _)); simp (disch := first | ((with_reducible show liveO _ _ _ = true); first | assumption | (exact liveO_setS (by assumption)) | (exact PtL.live (by assumption)) | (exact PtL.liveA (by assumption) _) | (simp only [go_sem]; done)) | omega | assumption | rfl | (simp only [go_sem]; first | done | omega)) only [go_sem, reduceIte, reduceCtorEq, Nat.reduceAdd, Nat.reduceMul, Nat.reduceSub, Nat.reduceLeDiff, Nat.lt_irrefl, Nat.reduceLT, Nat.reduceEqDiff, Nat.reduceBEq, Int.reduceLE, Int.reduceLT, Int.reduceToNat, w64, eq_self, hget_at' hp, hputA_at' hp, h.lenm, hlt, hwb, ← e1, c1, hw])
      | (with_reducible refine AW_seq (fun K hK => ?_))
      | (with_reducible refine AW_region tyOk ?_)
      | ((with_reducible refine AW_quiet (id := 2) tyOk ?_ ?_ ?_); (kernel_rfl); (kernel_rfl))
      | ((with_reducible refine AW_quiet (id := 3) tyOk ?_ ?_ ?_); (kernel_rfl); (kernel_rfl))
      | ((with_reducible refine AW_quiet (id := 6) tyOk ?_ ?_ ?_); (kernel_rfl); (kernel_rfl))
      | (with_reducible refine AOps_cons (fun K hK => ?_))
      | (with_reducible refine AQOps_cons (fun K hK => ?_))
      | ((with_reducible refine AQOps_nil ?_); try simp only [thenA, blockA, if_true, if_false, reduceIte, Nat.reduceEqDiff, reduceCtorEq])
      | ((with_reducible refine AOps_nil ?_); try simp only [thenA, blockA, if_true, if_false, reduceIte, Nat.reduceEqDiff, reduceCtorEq])
      | (with_reducible refine AW_block ?_)
      | ((first | (with_reducible refine AW_ret ?_) | (with_reducible refine AW_skip ?_) | (with_reducible refine AW_exit ?_)); try simp only [thenA, blockA, if_true, if_false, reduceIte, Nat.reduceEqDiff, reduceCtorEq])
      | ((with_reducible show AW _ _ (.cond _ _ _) _ _ _); refine AW_cond rfl (fun hg => ?_) (fun hg => ?_) <;> first | (exfalso; simp only [reduceCtorEq] at hg; done) | ((try simp only [Bool.not_eq_true', Bool.not_eq_false', decide_eq_true_eq, decide_eq_false_iff_not] at hg); try (exfalso; omega)))
      | ((with_reducible show _ ∧ _); refine And.intro (fun hg => ?_) (fun hg => ?_) <;> (try simp only [Bool.not_eq_true', Bool.not_eq_false'] at hg) <;> simp only [hg] <;> (try simp only [decide_eq_true_eq, decide_eq_false_iff_not] at hg) <;> (try (exfalso; omega)))
      | (clear hK K)
      | fail)
    all_goals (first | refine EndA_cut hcl (by first | exact Or.inr rfl | exact Or.inl rfl) (by simp only [Try.results35, resA, aresL, go_sem, reduceIte, reduceCtorEq, Nat.reduceAdd, Nat.reduceMul, Nat.reduceSub, Nat.reduceLeDiff, Nat.lt_irrefl, Nat.reduceLT, Nat.reduceEqDiff, Nat.reduceBEq, Int.reduceLE, Int.reduceLT, Int.reduceToNat, w64, eq_self] <;> rfl) rfl ?_ | refine EndA_same (by first | exact Or.inr rfl | exact Or.inl rfl) (by simp only [Try.results35, resA, aresL, go_sem, reduceIte, reduceCtorEq, Nat.reduceAdd, Nat.reduceMul, Nat.reduceSub, Nat.reduceLeDiff, Nat.lt_irrefl, Nat.reduceLT, Nat.reduceEqDiff, Nat.reduceBEq, Int.reduceLE, Int.reduceLT, Int.reduceToNat, w64, eq_self] <;> rfl) ?_)
    all_goals exact ⟨rfl, rfl⟩
end Go.Proofs.Ytpbafacehmjdmaa
