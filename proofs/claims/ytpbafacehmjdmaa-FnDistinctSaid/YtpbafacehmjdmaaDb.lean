/- Sieves of keys, in the abstract machine. -/
import Derived.Test.YtpbafacehmjdmaaDa
import Derived.Test.YtpbafacehmjdmaaZo
namespace Go.Proofs.Ytpbafacehmjdmaa
open Go.RowKit
set_option linter.unusedSimpArgs false
set_option linter.unusedVariables false
set_option maxRecDepth 100000

section
variable {H K : Hp} {id b v ver off n e s fo : Nat} {ro : Bool} {cs xs : List LV} {o : AO}
theorem PtL.setNe (h : PtL H id ver cs) (hne : id ≠ b) (o : AO) : PtL (H.set b o) id ver cs := by
  obtain ⟨ro, el, sz, h⟩ := h
  exact ⟨ro, el, sz, by rw [List.getElem?_set_ne (Ne.symm hne)]; exact h⟩
theorem liveO_setA (h : id < H.length) : liveO (H.set id ⟨v, ro, e, s, cs⟩ ++ K) id v = true := by
  rw [liveO_app K (by simpa using h)]; exact liveO_setS h
theorem hget_setA (h : id < H.length) : hget (H.set id ⟨v, ro, e, s, cs⟩ ++ K) id v off = cs[off]? := by
  rw [hget_app K (by simpa using h)]; exact hget_setS h
theorem hput_setA (h : id < H.length) (h2 : off + xs.length ≤ cs.length) : hput (H.set id ⟨v, false, e, s, cs⟩ ++ K) id v off xs = some (H.set id ⟨v, false, e, s, sets cs off xs⟩ ++ K) := by
  have hl : id < (H.set id ⟨v, false, e, s, cs⟩ ++ K).length := by simp; omega
  have hg : (H.set id ⟨v, false, e, s, cs⟩ ++ K)[id]? = some ⟨v, false, e, s, cs⟩ := by
    rw [List.getElem?_append_left (by simpa using h)]; simp [h]
  simp only [hput, hg, true_and, h2, if_true, Option.some.injEq]
  rw [List.set_append_left _ _ (by simpa using h), List.set_set]
end
def sieveB (r s : Int) (bs : List Bool) : Bool := inB r 1 8 && keyB s && decide (1 ≤ bs.length) && decide (bs.length ≤ 512)
theorem sieveB_all {r s : Int} {bs : List Bool} (h : sieveB r s bs = true) : (1 ≤ r ∧ r ≤ 8) ∧ (0 ≤ s ∧ s ≤ 4294967295) ∧ 1 ≤ bs.length ∧ bs.length ≤ 512 := by
  unfold sieveB at h
  simp only [Bool.and_eq_true, decide_eq_true_eq] at h
  exact ⟨by simpa [inB] using h.1.1.1, (keyB_iff s).1 h.1.1.2, h.1.2, h.2⟩
theorem AreKeys_c (lv : LV) (xs : List Int) (H : Hp) (h : RdL H lv (xs.map (LV.int .i64))) (hn : xs.length ≤ 17592186044416) : FunH Try.prog 45 [lv] H fun r H' => r = .bool (keysB xs) ∧ H' = H := by
  unfold keysB
  (refine FunH_body tyOk Try.func45 rfl (by kernel_rfl) Try.ntmps45 (fun hcl hbd => ?_); simp only [List.length_cons, List.length_nil, Nat.reduceAdd, Nat.reduceSub, List.replicate, List.cons_append, List.nil_append])
  repeat' (first
    | ((with_reducible refine hK _ _ ?_); clear hK K)
    | ((first | (with_reducible show AOp _ _ _ _ _ _ _)); simp (disch := first | ((with_reducible show liveO _ _ _ = true); first | assumption | (exact liveO_setS (by assumption)) | (exact PtL.live (by assumption)) | (exact PtL.liveA (by assumption) _) | (simp only [go_sem]; done)) | omega | assumption | rfl | (simp only [go_sem]; first | done | omega)) only [go_sem, reduceIte, reduceCtorEq, Nat.reduceAdd, Nat.reduceMul, Nat.reduceSub, Nat.reduceLeDiff, Nat.lt_irrefl, Nat.reduceLT, Nat.reduceEqDiff, Nat.reduceBEq, Int.reduceLE, Int.reduceLT, Int.reduceToNat, w64, eq_self, h.lenm])
    | (with_reducible refine AW_seq (fun K hK => ?_))
    | (with_reducible refine AW_region tyOk ?_)
    | (with_reducible refine AOps_cons (fun K hK => ?_))
    | ((with_reducible refine AOps_nil ?_); try simp only [thenA, blockA, if_true, if_false, reduceIte, Nat.reduceEqDiff, reduceCtorEq])
    | (with_reducible refine AW_block ?_)
    | ((first | (with_reducible refine AW_ret ?_) | (with_reducible refine AW_skip ?_) | (with_reducible refine AW_exit ?_)); try simp only [thenA, blockA, if_true, if_false, reduceIte, Nat.reduceEqDiff, reduceCtorEq])
    | ((with_reducible show AW _ _ (.cond _ _ _) _ _ _); refine AW_cond rfl (fun hg => ?_) (fun hg => ?_) <;> first | (exfalso; simp only [reduceCtorEq] at hg; done) | ((try simp only [Bool.not_eq_true', Bool.not_eq_false', decide_eq_true_eq, decide_eq_false_iff_not] at hg); try (exfalso; omega)))
    | ((with_reducible show _ ∧ _); refine And.intro (fun hg => ?_) (fun hg => ?_) <;> (try simp only [Bool.not_eq_true', Bool.not_eq_false'] at hg) <;> simp only [hg] <;> (try simp only [decide_eq_true_eq, decide_eq_false_iff_not] at hg) <;> (try (exfalso; omega)))
    | ((with_reducible apply FunH_intro); (first | exact areAllKeys_c _ _ _ (by first | assumption | exact RdL.app (by assumption) _ | exact RdL_hj rfl (by simp) | exact RdL_h0 rfl (by simp) | exact RdL_nil | exact RdL_emp) (by first | assumption | omega | (simp; omega) | (simp; done))))
    | (clear hK K)
    | fail)
  all_goals (first | refine EndA_cut hcl (by first | exact Or.inr rfl | exact Or.inl rfl) (by simp only [Try.results45, resA, aresL, go_sem, reduceIte, reduceCtorEq, Nat.reduceAdd, Nat.reduceMul, Nat.reduceSub, Nat.reduceLeDiff, Nat.lt_irrefl, Nat.reduceLT, Nat.reduceEqDiff, Nat.reduceBEq, Int.reduceLE, Int.reduceLT, Int.reduceToNat, w64, eq_self] <;> rfl) rfl ?_ | refine EndA_same (by first | exact Or.inr rfl | exact Or.inl rfl) (by simp only [Try.results45, resA, aresL, go_sem, reduceIte, reduceCtorEq, Nat.reduceAdd, Nat.reduceMul, Nat.reduceSub, Nat.reduceLeDiff, Nat.lt_irrefl, Nat.reduceLT, Nat.reduceEqDiff, Nat.reduceBEq, Int.reduceLE, Int.reduceLT, Int.reduceToNat, w64, eq_self] <;> rfl) ?_)
  all_goals (refine ⟨congrArg LV.bool ?_, rfl⟩; simp [*] <;> omega)
def putN (bs : List Bool) (f : Nat → Int) : Nat → List Bool
  | 0 => bs
  | k + 1 => (putN bs f k).set (f k).toNat true
theorem putN_len (bs : List Bool) (f : Nat → Int) : ∀ k, (putN bs f k).length = bs.length
  | 0 => rfl
  | k + 1 => by rw [putN, List.length_set, putN_len bs f k]
theorem putN_map (bs : List Bool) (f : Nat → Int) (k : Nat) : ((putN bs f k).map LV.bool).set (f k).toNat (.bool true) = (putN bs f (k + 1)).map LV.bool := by rw [putN, List.map_set]
theorem bool_bnd (bs : List Bool) : ∀ c ∈ bs.map LV.bool, ∀ n, bnd n c := by
  intro c hc n; obtain ⟨_, _, rfl⟩ := List.mem_map.1 hc; trivial
def plF (k s n : Int) (i : Nat) : Int := belowI k (saltI s (i : Nat)) n
end Go.Proofs.Ytpbafacehmjdmaa
