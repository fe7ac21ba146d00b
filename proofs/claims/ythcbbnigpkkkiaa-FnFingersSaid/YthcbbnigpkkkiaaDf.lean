/- PutFinger in the abstract machine. -/
import Derived.Test.YthcbbnigpkkkiaaDe
namespace Go.Proofs.Ythcbbnigpkkkiaa
open Go.RowKit
set_option linter.unusedSimpArgs false
set_option linter.unusedVariables false
set_option maxRecDepth 100000

def kick (s : Int) (m : Nat) : Nat → Nat → List Int → Int → Nat → Option (List Int)
  | 0, _, _, _, _ => none
  | n + 1, k, cs, f, h =>
    match chP (cs.set (2 * h + k % 2) f) (fgO s m (ix cs (2 * h + k % 2)) h).toNat 0 with
    | some p => some ((cs.set (2 * h + k % 2) f).set p (ix cs (2 * h + k % 2)))
    | none => kick s m n (k + 1) (cs.set (2 * h + k % 2) f) (ix cs (2 * h + k % 2)) (fgO s m (ix cs (2 * h + k % 2)) h).toNat
theorem chP_b {cs : List Int} {h p : Nat} {x : Int} (hp : chP cs h x = some p) (hh : 2 * h + 1 < cs.length) : p < cs.length := by
  unfold chP at hp
  split at hp
  · cases hp; omega
  · split at hp
    · cases hp; omega
    · cases hp
theorem kick_len (s : Int) (m : Nat) : ∀ (n k : Nat) (cs : List Int) (f : Int) (h : Nat) (out : List Int), kick s m n k cs f h = some out → out.length = cs.length
  | 0, _, _, _, _, _, h => by cases h
  | n + 1, k, cs, f, h, out, he => by
    rw [kick] at he
    split at he
    · cases he; simp
    · have := kick_len s m n _ _ _ _ _ he; simpa using this
def pfH (k s : Int) (m : Nat) : Nat := (belowI k (saltI s 1) m).toNat
def pfR (k s : Int) (cs : List Int) (m : Nat) : Option (List Int) :=
  match chP cs (pfH k s m) 0 with
  | some p => some (cs.set p (fgF k s))
  | none => match chP cs (fgO s m (fgF k s) (pfH k s m)).toNat 0 with
    | some p => some (cs.set p (fgF k s))
    | none => kick s m 64 0 cs (fgF k s) (pfH k s m)
def pfA (k s : Int) (cs : List Int) : Option (List Int) := if fingB s cs && keyB k then pfR k s cs (cs.length / 2) else none
theorem pfR_len {k s : Int} {cs out : List Int} {m : Nat} (h : pfR k s cs m = some out) : out.length = cs.length := by
  unfold pfR at h
  split at h
  · cases h; simp
  · split at h
    · cases h; simp
    · exact kick_len _ _ _ _ _ _ _ _ h
theorem pfA_len (k s : Int) (cs : List Int) : ((pfA k s cs).getD []).length ≤ 256 := by
  unfold pfA
  split
  · rename_i hc
    cases hr : pfR k s cs (cs.length / 2) with
    | none => simp
    | some out =>
      have hl := pfR_len hr
      have hf := (Bool.and_eq_true_iff.1 hc).1
      unfold fingB at hf
      simp only [Bool.and_eq_true] at hf
      obtain ⟨q, hq, hlen⟩ := pow2_half hf.1.2
      have : 2 ^ q ≤ 128 := Nat.pow_le_pow_right (n := 2) (by omega) (by omega : q ≤ 7)
      simp only [Option.getD_some]; omega
  · simp
theorem all_in {cs : List Int} (h : (cs.all fun x => inB x 0 255) = true) : ∀ x ∈ cs, 0 ≤ x ∧ x ≤ 255 := fun x hx => by
  have := List.all_eq_true.1 h x hx
  simpa [inB] using this
theorem set_in {cs : List Int} {x : Int} {p : Nat} (h : ∀ y ∈ cs, 0 ≤ y ∧ y ≤ 255) (hx : 0 ≤ x ∧ x ≤ 255) : ∀ y ∈ cs.set p x, 0 ≤ y ∧ y ≤ 255 := fun y hy => by
  rcases List.mem_or_eq_of_mem_set hy with h1 | h1
  · exact h y h1
  · rw [h1]; exact hx
set_option maxHeartbeats 8000000 in
theorem iPutFinger_c (s : Int) (y : LV) (cs : List Int) (k : Int) (H : Hp) (h : RdL H y (cs.map (LV.int .i64))) (hn : cs.length ≤ 1048576) :
    FunH Try.prog 7 [.agg [.int .i64 s, y], .int .i64 k] H fun r' H' => r' = .tup [.agg [.int .i64 (if (pfA k s cs).isSome then s else 0), .sl H.length 0 0 ((pfA k s cs).getD []).length none], .bool (pfA k s cs).isSome] ∧ H' = H ++ [⟨0, false, 2, 1, ((pfA k s cs).getD []).map (LV.int .i64)⟩] := by
  cases e1 : fingB s cs
  · have e : pfA k s cs = none := by unfold pfA; rw [e1]; rfl
    rw [e]
    (refine FunH_body tyOk Try.func7 rfl (by kernel_rfl) Try.ntmps7 (fun hcl hbd => ?_); simp only [List.length_cons, List.length_nil, Nat.reduceAdd, Nat.reduceSub, List.replicate, List.cons_append, List.nil_append])
    repeat' (first
      | ((with_reducible refine hK _ _ ?_); clear hK K)
      | ((with_reducible refine hK _ ?_); clear hK K; try simp only [])
      | ((first | (with_reducible show AOp _ _ _ _ _ _ _) | (with_reducible show AQOp _ _ _ _ _ _ _)); simp (disch := first | ((with_reducible show liveO _ _ _ = true); first | assumption | (exact liveO_setS (by assumption)) | (exact PtL.live (by assumption)) | (exact PtL.liveA (by assumption) _) | (simp only [go_sem]; done)) | omega | assumption | rfl | (simp only [go_sem]; first | done | omega)) only [go_sem, reduceIte, reduceCtorEq, Nat.reduceAdd, Nat.reduceMul, Nat.reduceSub, Nat.reduceLeDiff, Nat.lt_irrefl, Nat.reduceLT, Nat.reduceEqDiff, Nat.reduceBEq, Int.reduceLE, Int.reduceLT, Int.reduceToNat, w64, eq_self, h.isCell, e1])
      | (with_reducible refine AW_seq (fun K hK => ?_))
      | (with_reducible refine AW_region tyOk ?_)
      | ((with_reducible apply AW_tree (id := 5) tyOk 13); (kernel_rfl); (exact rfl))
      | ((with_reducible refine AW_drawn (id := 11) tyOk 11 ?_ ?_ ?_); (kernel_rfl); (kernel_rfl); simp only [List.take_succ_cons, List.take_zero, List.drop_succ_cons, List.drop_zero])
      | ((with_reducible refine AAny_leaf (by decide +kernel) ?_); exact ⟨rfl, rfl⟩)
      | (with_reducible refine AAny_step 5 [6, 7, 8, 10] (by decide +kernel) ?_)
      | (with_reducible refine AAny_step 5 [6, 7, 8] (by decide +kernel) ?_)
      | (with_reducible refine AAny_step 5 [6, 7, 10] (by decide +kernel) ?_)
      | (with_reducible refine AAny_step 5 [6, 8, 10] (by decide +kernel) ?_)
      | (with_reducible refine AAny_step 5 [7, 8, 10] (by decide +kernel) ?_)
      | (with_reducible refine AAny_step 6 [7, 8, 10] (by decide +kernel) ?_)
      | (with_reducible refine AAny_step 0 [1, 2] (by decide +kernel) ?_)
      | (with_reducible refine AAny_step 5 [6, 7] (by decide +kernel) ?_)
      | (with_reducible refine AAny_step 5 [6, 8] (by decide +kernel) ?_)
      | (with_reducible refine AAny_step 5 [6, 10] (by decide +kernel) ?_)
      | (with_reducible refine AAny_step 5 [7, 8] (by decide +kernel) ?_)
      | (with_reducible refine AAny_step 5 [7, 10] (by decide +kernel) ?_)
      | (with_reducible refine AAny_step 5 [8, 10] (by decide +kernel) ?_)
      | (with_reducible refine AAny_step 5 [9, 10] (by decide +kernel) ?_)
      | (with_reducible refine AAny_step 6 [7, 8] (by decide +kernel) ?_)
      | (with_reducible refine AAny_step 6 [7, 10] (by decide +kernel) ?_)
      | (with_reducible refine AAny_step 6 [8, 10] (by decide +kernel) ?_)
      | (with_reducible refine AAny_step 7 [8, 10] (by decide +kernel) ?_)
      | (with_reducible refine AAny_step 0 [1] (by decide +kernel) ?_)
      | (with_reducible refine AAny_step 0 [2] (by decide +kernel) ?_)
      | (with_reducible refine AAny_step 1 [2] (by decide +kernel) ?_)
      | (with_reducible refine AAny_step 5 [6] (by decide +kernel) ?_)
      | (with_reducible refine AAny_step 5 [7] (by decide +kernel) ?_)
      | (with_reducible refine AAny_step 5 [8] (by decide +kernel) ?_)
      | (with_reducible refine AAny_step 5 [9] (by decide +kernel) ?_)
      | (with_reducible refine AAny_step 5 [10] (by decide +kernel) ?_)
      | (with_reducible refine AAny_step 6 [7] (by decide +kernel) ?_)
      | (with_reducible refine AAny_step 6 [8] (by decide +kernel) ?_)
      | (with_reducible refine AAny_step 6 [10] (by decide +kernel) ?_)
      | (with_reducible refine AAny_step 7 [8] (by decide +kernel) ?_)
      | (with_reducible refine AAny_step 7 [10] (by decide +kernel) ?_)
      | (with_reducible refine AAny_step 8 [10] (by decide +kernel) ?_)
      | (with_reducible refine AAny_step 9 [10] (by decide +kernel) ?_)
      | (with_reducible refine AAny_step 0 [] (by decide +kernel) ?_)
      | (with_reducible refine AAny_step 1 [] (by decide +kernel) ?_)
      | (with_reducible refine AAny_step 2 [] (by decide +kernel) ?_)
      | (with_reducible refine AAny_step 3 [] (by decide +kernel) ?_)
      | (with_reducible refine AAny_step 4 [] (by decide +kernel) ?_)
      | (with_reducible refine AAny_step 5 [] (by decide +kernel) ?_)
      | (with_reducible refine AAny_step 6 [] (by decide +kernel) ?_)
      | (with_reducible refine AAny_step 7 [] (by decide +kernel) ?_)
      | (with_reducible refine AAny_step 8 [] (by decide +kernel) ?_)
      | (with_reducible refine AAny_step 9 [] (by decide +kernel) ?_)
      | (with_reducible refine AAny_step 10 [] (by decide +kernel) ?_)
      | (with_reducible refine AAny_step 11 [] (by decide +kernel) ?_)
      | (with_reducible refine AAny_step 12 [] (by decide +kernel) ?_)
      | (with_reducible refine AAll_cons rfl (fun K hK => ?_) ?_)
      | (with_reducible exact AAll_nil)
      | ((with_reducible show thenA _ _ _ _ _); simp only [thenA, blockA, if_true, if_false, reduceIte])
      | (with_reducible refine AOps_cons (fun K hK => ?_))
      | (with_reducible refine AQOps_cons (fun K hK => ?_))
      | ((with_reducible refine AQOps_nil ?_); try simp only [thenA, blockA, if_true, if_false, reduceIte, Nat.reduceEqDiff, reduceCtorEq])
      | ((with_reducible refine AOps_nil ?_); try simp only [thenA, blockA, if_true, if_false, reduceIte, Nat.reduceEqDiff, reduceCtorEq])
      | (with_reducible refine AW_block ?_)
      | ((first | (with_reducible refine AW_ret ?_) | (with_reducible refine AW_skip ?_) | (with_reducible refine AW_exit ?_)); try simp only [thenA, blockA, if_true, if_false, reduceIte, Nat.reduceEqDiff, reduceCtorEq])
      | ((with_reducible show AW _ _ (.cond _ _ _) _ _ _); refine AW_cond rfl (fun hg => ?_) (fun hg => ?_) <;> first | (exfalso; simp only [reduceCtorEq] at hg; done) | ((try simp only [Bool.not_eq_true', Bool.not_eq_false', decide_eq_true_eq, decide_eq_false_iff_not] at hg); try (exfalso; omega)))
      | ((with_reducible show _ ∧ _); refine And.intro (fun hg => ?_) (fun hg => ?_) <;> (try simp only [Bool.not_eq_true', Bool.not_eq_false'] at hg) <;> simp only [hg] <;> (try simp only [decide_eq_true_eq, decide_eq_false_iff_not] at hg) <;> (try (exfalso; omega)))
      | ((first | (with_reducible apply FunH_intro) | (with_reducible apply AQ_intro)); (first | exact iValidFingers_c _ _ _ _ (by first | assumption | exact RdL.app (by assumption) _ | exact RdL_hj rfl (by simp) | exact RdL_h0 rfl (by simp) | exact RdL_nil | exact RdL_emp) (by first | assumption | omega | (simp; omega) | (simp; done)) | exact IsKey_c _ _ | exact copyFingers_c _ _ _ _ (by first | assumption | exact RdL.app (by assumption) _ | exact RdL_hj rfl (by simp) | exact RdL_h0 rfl (by simp) | exact RdL_nil | exact RdL_emp) (by first | assumption | omega | (simp; omega) | (simp; done)) (by first | assumption | omega | (simp; omega) | (simp; done)) | exact finger_c _ _ _ _ _ _ (by first | assumption | exact RdL.app (by assumption) _ | exact RdL_hj rfl (by simp) | exact RdL_h0 rfl (by simp) | exact RdL_nil | exact RdL_emp) (by first | rfl | assumption | omega | (simp; done)) (by first | assumption | omega | (simp; omega) | (simp; done)) (by first | assumption | omega | (simp; omega) | (simp; done)) (by first | assumption | omega | (simp; omega) | (simp; done)) (by first | assumption | omega | (simp; omega) | (simp; done)) (by first | assumption | omega | (simp; omega) | (simp; done)) (by first | assumption | omega | (simp; omega) | (simp; done)) | exact change_some _ _ _ _ _ _ _ _ _ _ (by first | assumption | exact (hp_getj _ _ _).trans rfl | exact (hp_get0 _ _).trans rfl) (by first | assumption | omega | (simp; omega) | (simp; done)) (by first | assumption | omega | (simp; omega) | (simp; done)) (by first | rfl | assumption | omega | (simp; done)) | exact change_none _ _ _ _ _ _ _ _ _ (by first | assumption | exact (hp_getj _ _ _).trans rfl | exact (hp_get0 _ _).trans rfl) (by first | assumption | omega | (simp; omega) | (simp; done)) (by first | assumption | omega | (simp; omega) | (simp; done)) (by first | rfl | assumption | omega | (simp; done)) | exact other_c _ _ _ _ _ _ _ (by first | assumption | exact RdL.app (by assumption) _ | exact RdL_hj rfl (by simp) | exact RdL_h0 rfl (by simp) | exact RdL_nil | exact RdL_emp) (by first | rfl | assumption | omega | (simp; done)) (by first | assumption | omega | (simp; omega) | (simp; done)) (by first | assumption | omega | (simp; omega) | (simp; done)) (by first | assumption | omega | (simp; omega) | (simp; done)) (by first | assumption | omega | (simp; omega) | (simp; done)) (by first | assumption | omega | (simp; omega) | (simp; done)) (by first | assumption | omega | (simp; omega) | (simp; done))))
      | (clear hK K)
      | fail)
    first | (refine EndA_rows0 [none] hcl (by first | exact Or.inr rfl | exact Or.inl rfl) (by simp only [Try.results7, resA, aresL, go_sem, reduceIte, reduceCtorEq, Nat.reduceAdd, Nat.reduceMul, Nat.reduceSub, Nat.reduceLeDiff, Nat.lt_irrefl, Nat.reduceLT, Nat.reduceEqDiff, Nat.reduceBEq, Int.reduceLE, Int.reduceLT, Int.reduceToNat, w64, eq_self] <;> rfl) (by decide) ?_ ?_ ⟨rfl, rfl⟩) | (refine EndA_rows [none] hcl (by first | exact Or.inr rfl | exact Or.inl rfl) (by simp only [Try.results7, resA, aresL, go_sem, reduceIte, reduceCtorEq, Nat.reduceAdd, Nat.reduceMul, Nat.reduceSub, Nat.reduceLeDiff, Nat.lt_irrefl, Nat.reduceLT, Nat.reduceEqDiff, Nat.reduceBEq, Int.reduceLE, Int.reduceLT, Int.reduceToNat, w64, eq_self] <;> rfl) (by decide) ?_ ?_ ⟨rfl, rfl⟩)
    rotate_left
    · repeat' (first | exact trivial | apply TdT.tup | apply TdT.one | apply TdL.agg | apply TdL.cell | exact TdB.old _ trivial rfl | exact TdB.virt 0 rfl | exact TdB.junk _ | exact TdB.old _ (by assumption) (by assumption) | refine And.intro ?_ ?_)
    all_goals (repeat' (first | (with_reducible exact RowOk.none) | ((with_reducible apply RowOk.emp); exact rfl) | ((with_reducible apply RowOk.eq); (exact rfl); rotate_left; (first | (with_reducible exact scal_int _ _) | (with_reducible exact scal_flt _ _) | (with_reducible exact scal_bool _) | (intro c hc; cases hc; done) | (simp [LV.isCell, bnd]; done))) | exact trivial | refine And.intro ?_ ?_))
    all_goals (try rfl)
  cases e2 : keyB k
  · have e : pfA k s cs = none := by unfold pfA; rw [e1, e2]; rfl
    rw [e]
    (refine FunH_body tyOk Try.func7 rfl (by kernel_rfl) Try.ntmps7 (fun hcl hbd => ?_); simp only [List.length_cons, List.length_nil, Nat.reduceAdd, Nat.reduceSub, List.replicate, List.cons_append, List.nil_append])
    repeat' (first
      | ((with_reducible refine hK _ _ ?_); clear hK K)
      | ((with_reducible refine hK _ ?_); clear hK K; try simp only [])
      | ((first | (with_reducible show AOp _ _ _ _ _ _ _) | (with_reducible show AQOp _ _ _ _ _ _ _)); simp (disch := first | ((with_reducible show liveO _ _ _ = true); first | assumption | (exact liveO_setS (by assumption)) | (exact PtL.live (by assumption)) | (exact PtL.liveA (by assumption) _) | (simp only [go_sem]; done)) | omega | assumption | rfl | (simp only [go_sem]; first | done | omega)) only [go_sem, reduceIte, reduceCtorEq, Nat.reduceAdd, Nat.reduceMul, Nat.reduceSub, Nat.reduceLeDiff, Nat.lt_irrefl, Nat.reduceLT, Nat.reduceEqDiff, Nat.reduceBEq, Int.reduceLE, Int.reduceLT, Int.reduceToNat, w64, eq_self, h.isCell, e1, e2])
      | (with_reducible refine AW_seq (fun K hK => ?_))
      | (with_reducible refine AW_region tyOk ?_)
      | ((with_reducible apply AW_tree (id := 5) tyOk 13); (kernel_rfl); (exact rfl))
      | ((with_reducible refine AW_drawn (id := 11) tyOk 11 ?_ ?_ ?_); (kernel_rfl); (kernel_rfl); simp only [List.take_succ_cons, List.take_zero, List.drop_succ_cons, List.drop_zero])
      | ((with_reducible refine AAny_leaf (by decide +kernel) ?_); exact ⟨rfl, rfl⟩)
      | (with_reducible refine AAny_step 5 [6, 7, 8, 10] (by decide +kernel) ?_)
      | (with_reducible refine AAny_step 5 [6, 7, 8] (by decide +kernel) ?_)
      | (with_reducible refine AAny_step 5 [6, 7, 10] (by decide +kernel) ?_)
      | (with_reducible refine AAny_step 5 [6, 8, 10] (by decide +kernel) ?_)
      | (with_reducible refine AAny_step 5 [7, 8, 10] (by decide +kernel) ?_)
      | (with_reducible refine AAny_step 6 [7, 8, 10] (by decide +kernel) ?_)
      | (with_reducible refine AAny_step 0 [1, 2] (by decide +kernel) ?_)
      | (with_reducible refine AAny_step 5 [6, 7] (by decide +kernel) ?_)
      | (with_reducible refine AAny_step 5 [6, 8] (by decide +kernel) ?_)
      | (with_reducible refine AAny_step 5 [6, 10] (by decide +kernel) ?_)
      | (with_reducible refine AAny_step 5 [7, 8] (by decide +kernel) ?_)
      | (with_reducible refine AAny_step 5 [7, 10] (by decide +kernel) ?_)
      | (with_reducible refine AAny_step 5 [8, 10] (by decide +kernel) ?_)
      | (with_reducible refine AAny_step 5 [9, 10] (by decide +kernel) ?_)
      | (with_reducible refine AAny_step 6 [7, 8] (by decide +kernel) ?_)
      | (with_reducible refine AAny_step 6 [7, 10] (by decide +kernel) ?_)
      | (with_reducible refine AAny_step 6 [8, 10] (by decide +kernel) ?_)
      | (with_reducible refine AAny_step 7 [8, 10] (by decide +kernel) ?_)
      | (with_reducible refine AAny_step 0 [1] (by decide +kernel) ?_)
      | (with_reducible refine AAny_step 0 [2] (by decide +kernel) ?_)
      | (with_reducible refine AAny_step 1 [2] (by decide +kernel) ?_)
      | (with_reducible refine AAny_step 5 [6] (by decide +kernel) ?_)
      | (with_reducible refine AAny_step 5 [7] (by decide +kernel) ?_)
      | (with_reducible refine AAny_step 5 [8] (by decide +kernel) ?_)
      | (with_reducible refine AAny_step 5 [9] (by decide +kernel) ?_)
      | (with_reducible refine AAny_step 5 [10] (by decide +kernel) ?_)
      | (with_reducible refine AAny_step 6 [7] (by decide +kernel) ?_)
      | (with_reducible refine AAny_step 6 [8] (by decide +kernel) ?_)
      | (with_reducible refine AAny_step 6 [10] (by decide +kernel) ?_)
      | (with_reducible refine AAny_step 7 [8] (by decide +kernel) ?_)
      | (with_reducible refine AAny_step 7 [10] (by decide +kernel) ?_)
      | (with_reducible refine AAny_step 8 [10] (by decide +kernel) ?_)
      | (with_reducible refine AAny_step 9 [10] (by decide +kernel) ?_)
      | (with_reducible refine AAny_step 0 [] (by decide +kernel) ?_)
      | (with_reducible refine AAny_step 1 [] (by decide +kernel) ?_)
      | (with_reducible refine AAny_step 2 [] (by decide +kernel) ?_)
      | (with_reducible refine AAny_step 3 [] (by decide +kernel) ?_)
      | (with_reducible refine AAny_step 4 [] (by decide +kernel) ?_)
      | (with_reducible refine AAny_step 5 [] (by decide +kernel) ?_)
      | (with_reducible refine AAny_step 6 [] (by decide +kernel) ?_)
      | (with_reducible refine AAny_step 7 [] (by decide +kernel) ?_)
      | (with_reducible refine AAny_step 8 [] (by decide +kernel) ?_)
      | (with_reducible refine AAny_step 9 [] (by decide +kernel) ?_)
      | (with_reducible refine AAny_step 10 [] (by decide +kernel) ?_)
      | (with_reducible refine AAny_step 11 [] (by decide +kernel) ?_)
      | (with_reducible refine AAny_step 12 [] (by decide +kernel) ?_)
      | (with_reducible refine AAll_cons rfl (fun K hK => ?_) ?_)
      | (with_reducible exact AAll_nil)
      | ((with_reducible show thenA _ _ _ _ _); simp only [thenA, blockA, if_true, if_false, reduceIte])
      | (with_reducible refine AOps_cons (fun K hK => ?_))
      | (with_reducible refine AQOps_cons (fun K hK => ?_))
      | ((with_reducible refine AQOps_nil ?_); try simp only [thenA, blockA, if_true, if_false, reduceIte, Nat.reduceEqDiff, reduceCtorEq])
      | ((with_reducible refine AOps_nil ?_); try simp only [thenA, blockA, if_true, if_false, reduceIte, Nat.reduceEqDiff, reduceCtorEq])
      | (with_reducible refine AW_block ?_)
      | ((first | (with_reducible refine AW_ret ?_) | (with_reducible refine AW_skip ?_) | (with_reducible refine AW_exit ?_)); try simp only [thenA, blockA, if_true, if_false, reduceIte, Nat.reduceEqDiff, reduceCtorEq])
      | ((with_reducible show AW _ _ (.cond _ _ _) _ _ _); refine AW_cond rfl (fun hg => ?_) (fun hg => ?_) <;> first | (exfalso; simp only [reduceCtorEq] at hg; done) | ((try simp only [Bool.not_eq_true', Bool.not_eq_false', decide_eq_true_eq, decide_eq_false_iff_not] at hg); try (exfalso; omega)))
      | ((with_reducible show _ ∧ _); refine And.intro (fun hg => ?_) (fun hg => ?_) <;> (try simp only [Bool.not_eq_true', Bool.not_eq_false'] at hg) <;> simp only [hg] <;> (try simp only [decide_eq_true_eq, decide_eq_false_iff_not] at hg) <;> (try (exfalso; omega)))
      | ((first | (with_reducible apply FunH_intro) | (with_reducible apply AQ_intro)); (first | exact iValidFingers_c _ _ _ _ (by first | assumption | exact RdL.app (by assumption) _ | exact RdL_hj rfl (by simp) | exact RdL_h0 rfl (by simp) | exact RdL_nil | exact RdL_emp) (by first | assumption | omega | (simp; omega) | (simp; done)) | exact IsKey_c _ _ | exact copyFingers_c _ _ _ _ (by first | assumption | exact RdL.app (by assumption) _ | exact RdL_hj rfl (by simp) | exact RdL_h0 rfl (by simp) | exact RdL_nil | exact RdL_emp) (by first | assumption | omega | (simp; omega) | (simp; done)) (by first | assumption | omega | (simp; omega) | (simp; done)) | exact finger_c _ _ _ _ _ _ (by first | assumption | exact RdL.app (by assumption) _ | exact RdL_hj rfl (by simp) | exact RdL_h0 rfl (by simp) | exact RdL_nil | exact RdL_emp) (by first | rfl | assumption | omega | (simp; done)) (by first | assumption | omega | (simp; omega) | (simp; done)) (by first | assumption | omega | (simp; omega) | (simp; done)) (by first | assumption | omega | (simp; omega) | (simp; done)) (by first | assumption | omega | (simp; omega) | (simp; done)) (by first | assumption | omega | (simp; omega) | (simp; done)) (by first | assumption | omega | (simp; omega) | (simp; done)) | exact change_some _ _ _ _ _ _ _ _ _ _ (by first | assumption | exact (hp_getj _ _ _).trans rfl | exact (hp_get0 _ _).trans rfl) (by first | assumption | omega | (simp; omega) | (simp; done)) (by first | assumption | omega | (simp; omega) | (simp; done)) (by first | rfl | assumption | omega | (simp; done)) | exact change_none _ _ _ _ _ _ _ _ _ (by first | assumption | exact (hp_getj _ _ _).trans rfl | exact (hp_get0 _ _).trans rfl) (by first | assumption | omega | (simp; omega) | (simp; done)) (by first | assumption | omega | (simp; omega) | (simp; done)) (by first | rfl | assumption | omega | (simp; done)) | exact other_c _ _ _ _ _ _ _ (by first | assumption | exact RdL.app (by assumption) _ | exact RdL_hj rfl (by simp) | exact RdL_h0 rfl (by simp) | exact RdL_nil | exact RdL_emp) (by first | rfl | assumption | omega | (simp; done)) (by first | assumption | omega | (simp; omega) | (simp; done)) (by first | assumption | omega | (simp; omega) | (simp; done)) (by first | assumption | omega | (simp; omega) | (simp; done)) (by first | assumption | omega | (simp; omega) | (simp; done)) (by first | assumption | omega | (simp; omega) | (simp; done)) (by first | assumption | omega | (simp; omega) | (simp; done))))
      | (clear hK K)
      | fail)
    first | (refine EndA_rows0 [none] hcl (by first | exact Or.inr rfl | exact Or.inl rfl) (by simp only [Try.results7, resA, aresL, go_sem, reduceIte, reduceCtorEq, Nat.reduceAdd, Nat.reduceMul, Nat.reduceSub, Nat.reduceLeDiff, Nat.lt_irrefl, Nat.reduceLT, Nat.reduceEqDiff, Nat.reduceBEq, Int.reduceLE, Int.reduceLT, Int.reduceToNat, w64, eq_self] <;> rfl) (by decide) ?_ ?_ ⟨rfl, rfl⟩) | (refine EndA_rows [none] hcl (by first | exact Or.inr rfl | exact Or.inl rfl) (by simp only [Try.results7, resA, aresL, go_sem, reduceIte, reduceCtorEq, Nat.reduceAdd, Nat.reduceMul, Nat.reduceSub, Nat.reduceLeDiff, Nat.lt_irrefl, Nat.reduceLT, Nat.reduceEqDiff, Nat.reduceBEq, Int.reduceLE, Int.reduceLT, Int.reduceToNat, w64, eq_self] <;> rfl) (by decide) ?_ ?_ ⟨rfl, rfl⟩)
    rotate_left
    · repeat' (first | exact trivial | apply TdT.tup | apply TdT.one | apply TdL.agg | apply TdL.cell | exact TdB.old _ trivial rfl | exact TdB.virt 0 rfl | exact TdB.junk _ | exact TdB.old _ (by assumption) (by assumption) | refine And.intro ?_ ?_)
    all_goals (repeat' (first | (with_reducible exact RowOk.none) | ((with_reducible apply RowOk.emp); exact rfl) | ((with_reducible apply RowOk.eq); (exact rfl); rotate_left; (first | (with_reducible exact scal_int _ _) | (with_reducible exact scal_flt _ _) | (with_reducible exact scal_bool _) | (intro c hc; cases hc; done) | (simp [LV.isCell, bnd]; done))) | exact trivial | refine And.intro ?_ ?_))
    all_goals (try rfl)
  have hf := e1
  unfold fingB at hf
  simp only [Bool.and_eq_true] at hf
  obtain ⟨⟨f1, f2⟩, f3⟩ := hf
  obtain ⟨q, hq2, hlen⟩ := pow2_half f2
  obtain ⟨m, hm⟩ : ∃ m, 2 ^ q = m := ⟨_, rfl⟩
  rw [hm] at hlen
  have hm1 : 1 ≤ m := by rw [← hm]; exact Nat.one_le_two_pow
  have hm2 : m ≤ 128 := by rw [← hm]; exact Nat.pow_le_pow_right (n := 2) (by omega) (by omega : q ≤ 7)
  have bs := (keyB_iff s).1 f1
  have bk := (keyB_iff k).1 e2
  have hcs := all_in f3
  have e : pfA k s cs = pfR k s cs m := by unfold pfA; rw [e1, e2, show cs.length / 2 = m by omega]; rfl
  rw [e]
  obtain ⟨hB0, hB1⟩ := belowI_b k (saltI s 1) m (by omega) (by omega)
  obtain ⟨hF0, hF1⟩ := belowI_b k s 255 (by omega) (by omega)
  obtain ⟨hh, hhe⟩ : ∃ hh : Nat, belowI k (saltI s 1) m = (hh : Int) := ⟨(belowI k (saltI s 1) m).toNat, by omega⟩
  have hph : pfH k s m = hh := by unfold pfH; rw [hhe]; rfl
  obtain ⟨f, hfe⟩ : ∃ f, fgF k s = f := ⟨_, rfl⟩
  have bf : 0 ≤ f ∧ f ≤ 255 := by rw [← hfe]; unfold fgF; omega
  obtain ⟨hO0, hO1⟩ := fgO_b (s := s) (f := f) hm.symm hq2 (by omega : 0 ≤ (hh : Int)) (by omega)
  obtain ⟨ho, hoe⟩ : ∃ ho : Nat, fgO s m f hh = (ho : Int) := ⟨(fgO s m f hh).toNat, by omega⟩
  unfold pfR
  rw [hph, hfe, hoe, Int.toNat_natCast]
  have hfin := fun (H : Hp) (y : LV) (hr : RdL H y (cs.map (LV.int .i64))) => finger_c k s y cs m H hr hlen hm1 (by omega) bk.1 bk.2 bs.1 bs.2
  have hoth := fun (H : Hp) (y : LV) (hr : RdL H y (cs.map (LV.int .i64))) => other_c f hh s y cs m H hr hlen hm1 (by omega) (by omega) (by omega) bs.1 bs.2
  cases hc1 : chP cs hh 0 with
  | some p =>
    have hch := fun (H : Hp) (b : Nat) (hb : H[b]? = some ⟨0, false, 2, 1, cs.map (LV.int .i64)⟩) => change_some b 0 2 hh p s 0 f cs H hb (by omega) (by omega) hc1
    have hpl := chP_b hc1 (by omega)
    simp only [Option.isSome_some, Option.getD_some, if_true, List.length_set]
    (refine FunH_body tyOk Try.func7 rfl (by kernel_rfl) Try.ntmps7 (fun hcl hbd => ?_); simp only [List.length_cons, List.length_nil, Nat.reduceAdd, Nat.reduceSub, List.replicate, List.cons_append, List.nil_append])
    repeat' (first
      | ((with_reducible refine hK _ _ ?_); clear hK K)
      | ((with_reducible refine hK _ ?_); clear hK K; try simp only [])
      | ((first | (with_reducible show AOp _ _ _ _ _ _ _) | (with_reducible show AQOp _ _ _ _ _ _ _)); simp (disch := first | ((with_reducible show liveO _ _ _ = true); first | assumption | (exact liveO_setS (by assumption)) | (exact PtL.live (by assumption)) | (exact PtL.liveA (by assumption) _) | (simp only [go_sem]; done)) | omega | assumption | rfl | (simp only [go_sem]; first | done | omega)) only [go_sem, reduceIte, reduceCtorEq, Nat.reduceAdd, Nat.reduceMul, Nat.reduceSub, Nat.reduceLeDiff, Nat.lt_irrefl, Nat.reduceLT, Nat.reduceEqDiff, Nat.reduceBEq, Int.reduceLE, Int.reduceLT, Int.reduceToNat, w64, eq_self, h.isCell, e1, e2, hhe, hfe])
      | (with_reducible refine AW_seq (fun K hK => ?_))
      | (with_reducible refine AW_region tyOk ?_)
      | ((with_reducible apply AW_tree (id := 5) tyOk 13); (kernel_rfl); (exact rfl))
      | ((with_reducible refine AW_drawn (id := 11) tyOk 11 ?_ ?_ ?_); (kernel_rfl); (kernel_rfl); simp only [List.take_succ_cons, List.take_zero, List.drop_succ_cons, List.drop_zero])
      | ((with_reducible refine AAny_leaf (by decide +kernel) ?_); exact ⟨rfl, rfl⟩)
      | (with_reducible refine AAny_pure 1 rfl rfl (by decide +kernel) (by decide +kernel) (fun K hK => ?_))
      | (with_reducible refine AAny_pure 2 rfl rfl (by decide +kernel) (by decide +kernel) (fun K hK => ?_))
      | (with_reducible refine AAny_pure 4 rfl rfl (by decide +kernel) (by decide +kernel) (fun K hK => ?_))
      | (with_reducible refine AAny_pure 7 rfl rfl (by decide +kernel) (by decide +kernel) (fun K hK => ?_))
      | (with_reducible refine AAny_pure 8 rfl rfl (by decide +kernel) (by decide +kernel) (fun K hK => ?_))
      | (with_reducible refine AAny_pure 10 rfl rfl (by decide +kernel) (by decide +kernel) (fun K hK => ?_))
      | (with_reducible refine AAny_pure 12 rfl rfl (by decide +kernel) (by decide +kernel) (fun K hK => ?_))
      | (with_reducible refine AAny_step 5 [6] (by decide +kernel) ?_)
      | (with_reducible refine AAny_step 5 [9] (by decide +kernel) ?_)
      | (with_reducible refine AAny_step 0 [] (by decide +kernel) ?_)
      | (with_reducible refine AAny_step 3 [] (by decide +kernel) ?_)
      | (with_reducible refine AAny_step 5 [] (by decide +kernel) ?_)
      | (with_reducible refine AAny_step 6 [] (by decide +kernel) ?_)
      | (with_reducible refine AAny_step 9 [] (by decide +kernel) ?_)
      | (with_reducible refine AAny_step 11 [] (by decide +kernel) ?_)
      | (with_reducible refine AAll_cons rfl (fun K hK => ?_) ?_)
      | (with_reducible exact AAll_nil)
      | ((with_reducible show thenA _ _ _ _ _); simp only [thenA, blockA, if_true, if_false, reduceIte])
      | ((with_reducible show blockA _ _ _ _ _); simp only [thenA, blockA, if_true, if_false, reduceIte, Nat.reduceEqDiff, reduceCtorEq])
      | (with_reducible refine AOps_cons (fun K hK => ?_))
      | (with_reducible refine AQOps_cons (fun K hK => ?_))
      | ((with_reducible refine AQOps_nil ?_); try simp only [thenA, blockA, if_true, if_false, reduceIte, Nat.reduceEqDiff, reduceCtorEq])
      | ((with_reducible refine AOps_nil ?_); try simp only [thenA, blockA, if_true, if_false, reduceIte, Nat.reduceEqDiff, reduceCtorEq])
      | (with_reducible refine AW_block ?_)
      | ((first | (with_reducible refine AW_ret ?_) | (with_reducible refine AW_skip ?_) | (with_reducible refine AW_exit ?_)); try simp only [thenA, blockA, if_true, if_false, reduceIte, Nat.reduceEqDiff, reduceCtorEq])
      | ((with_reducible show AW _ _ (.cond _ _ _) _ _ _); refine AW_cond rfl (fun hg => ?_) (fun hg => ?_) <;> first | (exfalso; simp only [reduceCtorEq] at hg; done) | ((try simp only [Bool.not_eq_true', Bool.not_eq_false', decide_eq_true_eq, decide_eq_false_iff_not] at hg); try (exfalso; omega)))
      | ((with_reducible show _ ∧ _); refine And.intro (fun hg => ?_) (fun hg => ?_) <;> (try simp only [Bool.not_eq_true', Bool.not_eq_false'] at hg) <;> simp only [hg] <;> (try simp only [decide_eq_true_eq, decide_eq_false_iff_not] at hg) <;> (try (exfalso; omega)))
      | ((first | (with_reducible apply FunH_intro) | (with_reducible apply AQ_intro)); (first | exact hfin _ _ (RdL_hj rfl (by simp)) | exact hch _ _ ((hp_getj _ _ _).trans rfl) | exact iValidFingers_c _ _ _ _ (by first | assumption | exact RdL.app (by assumption) _ | exact RdL_hj rfl (by simp) | exact RdL_h0 rfl (by simp) | exact RdL_nil | exact RdL_emp) (by first | assumption | omega | (simp; omega) | (simp; done)) | exact IsKey_c _ _ | exact copyFingers_c _ _ _ _ (by first | assumption | exact RdL.app (by assumption) _ | exact RdL_hj rfl (by simp) | exact RdL_h0 rfl (by simp) | exact RdL_nil | exact RdL_emp) (by first | assumption | omega | (simp; omega) | (simp; done)) (by first | assumption | omega | (simp; omega) | (simp; done)) | exact finger_c _ _ _ _ _ _ (by first | assumption | exact RdL.app (by assumption) _ | exact RdL_hj rfl (by simp) | exact RdL_h0 rfl (by simp) | exact RdL_nil | exact RdL_emp) (by first | rfl | assumption | omega | (simp; done)) (by first | assumption | omega | (simp; omega) | (simp; done)) (by first | assumption | omega | (simp; omega) | (simp; done)) (by first | assumption | omega | (simp; omega) | (simp; done)) (by first | assumption | omega | (simp; omega) | (simp; done)) (by first | assumption | omega | (simp; omega) | (simp; done)) (by first | assumption | omega | (simp; omega) | (simp; done)) | exact change_some _ _ _ _ _ _ _ _ _ _ (by first | assumption | exact (hp_getj _ _ _).trans rfl | exact (hp_get0 _ _).trans rfl) (by first | assumption | omega | (simp; omega) | (simp; done)) (by first | assumption | omega | (simp; omega) | (simp; done)) (by first | rfl | assumption | omega | (simp; done)) | exact change_none _ _ _ _ _ _ _ _ _ (by first | assumption | exact (hp_getj _ _ _).trans rfl | exact (hp_get0 _ _).trans rfl) (by first | assumption | omega | (simp; omega) | (simp; done)) (by first | assumption | omega | (simp; omega) | (simp; done)) (by first | rfl | assumption | omega | (simp; done)) | exact other_c _ _ _ _ _ _ _ (by first | assumption | exact RdL.app (by assumption) _ | exact RdL_hj rfl (by simp) | exact RdL_h0 rfl (by simp) | exact RdL_nil | exact RdL_emp) (by first | rfl | assumption | omega | (simp; done)) (by first | assumption | omega | (simp; omega) | (simp; done)) (by first | assumption | omega | (simp; omega) | (simp; done)) (by first | assumption | omega | (simp; omega) | (simp; done)) (by first | assumption | omega | (simp; omega) | (simp; done)) (by first | assumption | omega | (simp; omega) | (simp; done)) (by first | assumption | omega | (simp; omega) | (simp; done))))
      | (clear hK K)
      | fail)
    refine EndA_rows [some 2] hcl (by first | exact Or.inr rfl | exact Or.inl rfl) (by simp only [Try.results7, resA, aresL, go_sem, reduceIte, reduceCtorEq, Nat.reduceAdd, Nat.reduceMul, Nat.reduceSub, Nat.reduceLeDiff, Nat.lt_irrefl, Nat.reduceLT, Nat.reduceEqDiff, Nat.reduceBEq, Int.reduceLE, Int.reduceLT, Int.reduceToNat, w64, eq_self] <;> rfl) (by decide) ?_ ?_ ⟨rfl, rfl⟩
    rotate_left
    · repeat' (first | exact trivial | apply TdT.tup | apply TdT.one | apply TdL.agg | apply TdL.cell | exact TdB.old _ trivial rfl | exact TdB.own 0 2 _ _ _ _ rfl _ rfl rfl | exact TdB.junk _ | exact TdB.old _ (by assumption) (by assumption) | refine And.intro ?_ ?_)
    all_goals (repeat' (first | (with_reducible exact RowOk.none) | ((with_reducible apply RowOk.emp); exact rfl) | ((with_reducible apply RowOk.eq); (exact rfl); rotate_left; (first | (with_reducible exact scal_int _ _) | (with_reducible exact scal_flt _ _) | (with_reducible exact scal_bool _) | (intro c hc; cases hc; done) | (simp [LV.isCell, bnd]; done))) | exact trivial | refine And.intro ?_ ?_))
    all_goals (try rfl)
  | none =>
    have hch := fun (H : Hp) (b : Nat) (hb : H[b]? = some ⟨0, false, 2, 1, cs.map (LV.int .i64)⟩) => change_none b 0 2 hh s 0 f cs H hb (by omega) (by omega) hc1
    cases hc2 : chP cs ho 0 with
    | some p =>
      have hch2 := fun (H : Hp) (b : Nat) (hb : H[b]? = some ⟨0, false, 2, 1, cs.map (LV.int .i64)⟩) => change_some b 0 2 ho p s 0 f cs H hb (by omega) (by omega) hc2
      have hpl := chP_b hc2 (by omega)
      simp only [Option.isSome_some, Option.getD_some, if_true, List.length_set]
      (refine FunH_body tyOk Try.func7 rfl (by kernel_rfl) Try.ntmps7 (fun hcl hbd => ?_); simp only [List.length_cons, List.length_nil, Nat.reduceAdd, Nat.reduceSub, List.replicate, List.cons_append, List.nil_append])
      repeat' (first
        | ((with_reducible refine hK _ _ ?_); clear hK K)
        | ((with_reducible refine hK _ ?_); clear hK K; try simp only [])
        | ((first | (with_reducible show AOp _ _ _ _ _ _ _) | (with_reducible show AQOp _ _ _ _ _ _ _)); simp (disch := first | ((with_reducible show liveO _ _ _ = true); first | assumption | (exact liveO_setS (by assumption)) | (exact PtL.live (by assumption)) | (exact PtL.liveA (by assumption) _) | (simp only [go_sem]; done)) | omega | assumption | rfl | (simp only [go_sem]; first | done | omega)) only [go_sem, reduceIte, reduceCtorEq, Nat.reduceAdd, Nat.reduceMul, Nat.reduceSub, Nat.reduceLeDiff, Nat.lt_irrefl, Nat.reduceLT, Nat.reduceEqDiff, Nat.reduceBEq, Int.reduceLE, Int.reduceLT, Int.reduceToNat, w64, eq_self, h.isCell, e1, e2, hhe, hfe, hoe])
        | (with_reducible refine AW_seq (fun K hK => ?_))
        | (with_reducible refine AW_region tyOk ?_)
        | ((with_reducible apply AW_tree (id := 5) tyOk 13); (kernel_rfl); (exact rfl))
        | ((with_reducible refine AW_drawn (id := 11) tyOk 11 ?_ ?_ ?_); (kernel_rfl); (kernel_rfl); simp only [List.take_succ_cons, List.take_zero, List.drop_succ_cons, List.drop_zero])
        | ((with_reducible refine AAny_leaf (by decide +kernel) ?_); exact ⟨rfl, rfl⟩)
        | (with_reducible refine AAny_pure 1 rfl rfl (by decide +kernel) (by decide +kernel) (fun K hK => ?_))
        | (with_reducible refine AAny_pure 2 rfl rfl (by decide +kernel) (by decide +kernel) (fun K hK => ?_))
        | (with_reducible refine AAny_pure 4 rfl rfl (by decide +kernel) (by decide +kernel) (fun K hK => ?_))
        | (with_reducible refine AAny_pure 7 rfl rfl (by decide +kernel) (by decide +kernel) (fun K hK => ?_))
        | (with_reducible refine AAny_pure 8 rfl rfl (by decide +kernel) (by decide +kernel) (fun K hK => ?_))
        | (with_reducible refine AAny_pure 10 rfl rfl (by decide +kernel) (by decide +kernel) (fun K hK => ?_))
        | (with_reducible refine AAny_pure 12 rfl rfl (by decide +kernel) (by decide +kernel) (fun K hK => ?_))
        | (with_reducible refine AAny_step 5 [6] (by decide +kernel) ?_)
        | (with_reducible refine AAny_step 5 [9] (by decide +kernel) ?_)
        | (with_reducible refine AAny_step 0 [] (by decide +kernel) ?_)
        | (with_reducible refine AAny_step 3 [] (by decide +kernel) ?_)
        | (with_reducible refine AAny_step 5 [] (by decide +kernel) ?_)
        | (with_reducible refine AAny_step 6 [] (by decide +kernel) ?_)
        | (with_reducible refine AAny_step 9 [] (by decide +kernel) ?_)
        | (with_reducible refine AAny_step 11 [] (by decide +kernel) ?_)
        | (with_reducible refine AAll_cons rfl (fun K hK => ?_) ?_)
        | (with_reducible exact AAll_nil)
        | ((with_reducible show thenA _ _ _ _ _); simp only [thenA, blockA, if_true, if_false, reduceIte])
        | ((with_reducible show blockA _ _ _ _ _); simp only [thenA, blockA, if_true, if_false, reduceIte, Nat.reduceEqDiff, reduceCtorEq])
        | (with_reducible refine AOps_cons (fun K hK => ?_))
        | (with_reducible refine AQOps_cons (fun K hK => ?_))
        | ((with_reducible refine AQOps_nil ?_); try simp only [thenA, blockA, if_true, if_false, reduceIte, Nat.reduceEqDiff, reduceCtorEq])
        | ((with_reducible refine AOps_nil ?_); try simp only [thenA, blockA, if_true, if_false, reduceIte, Nat.reduceEqDiff, reduceCtorEq])
        | (with_reducible refine AW_block ?_)
        | ((first | (with_reducible refine AW_ret ?_) | (with_reducible refine AW_skip ?_) | (with_reducible refine AW_exit ?_)); try simp only [thenA, blockA, if_true, if_false, reduceIte, Nat.reduceEqDiff, reduceCtorEq])
        | ((with_reducible show AW _ _ (.cond _ _ _) _ _ _); refine AW_cond rfl (fun hg => ?_) (fun hg => ?_) <;> first | (exfalso; simp only [reduceCtorEq] at hg; done) | ((try simp only [Bool.not_eq_true', Bool.not_eq_false', decide_eq_true_eq, decide_eq_false_iff_not] at hg); try (exfalso; omega)))
        | ((with_reducible show _ ∧ _); refine And.intro (fun hg => ?_) (fun hg => ?_) <;> (try simp only [Bool.not_eq_true', Bool.not_eq_false'] at hg) <;> simp only [hg] <;> (try simp only [decide_eq_true_eq, decide_eq_false_iff_not] at hg) <;> (try (exfalso; omega)))
        | ((first | (with_reducible apply FunH_intro) | (with_reducible apply AQ_intro)); (first | exact hfin _ _ (RdL_hj rfl (by simp)) | exact hch _ _ ((hp_getj _ _ _).trans rfl) | exact hoth _ _ (RdL_hj rfl (by simp)) | exact hch2 _ _ ((hp_getj _ _ _).trans rfl) | exact iValidFingers_c _ _ _ _ (by first | assumption | exact RdL.app (by assumption) _ | exact RdL_hj rfl (by simp) | exact RdL_h0 rfl (by simp) | exact RdL_nil | exact RdL_emp) (by first | assumption | omega | (simp; omega) | (simp; done)) | exact IsKey_c _ _ | exact copyFingers_c _ _ _ _ (by first | assumption | exact RdL.app (by assumption) _ | exact RdL_hj rfl (by simp) | exact RdL_h0 rfl (by simp) | exact RdL_nil | exact RdL_emp) (by first | assumption | omega | (simp; omega) | (simp; done)) (by first | assumption | omega | (simp; omega) | (simp; done)) | exact finger_c _ _ _ _ _ _ (by first | assumption | exact RdL.app (by assumption) _ | exact RdL_hj rfl (by simp) | exact RdL_h0 rfl (by simp) | exact RdL_nil | exact RdL_emp) (by first | rfl | assumption | omega | (simp; done)) (by first | assumption | omega | (simp; omega) | (simp; done)) (by first | assumption | omega | (simp; omega) | (simp; done)) (by first | assumption | omega | (simp; omega) | (simp; done)) (by first | assumption | omega | (simp; omega) | (simp; done)) (by first | assumption | omega | (simp; omega) | (simp; done)) (by first | assumption | omega | (simp; omega) | (simp; done)) | exact change_some _ _ _ _ _ _ _ _ _ _ (by first | assumption | exact (hp_getj _ _ _).trans rfl | exact (hp_get0 _ _).trans rfl) (by first | assumption | omega | (simp; omega) | (simp; done)) (by first | assumption | omega | (simp; omega) | (simp; done)) (by first | rfl | assumption | omega | (simp; done)) | exact change_none _ _ _ _ _ _ _ _ _ (by first | assumption | exact (hp_getj _ _ _).trans rfl | exact (hp_get0 _ _).trans rfl) (by first | assumption | omega | (simp; omega) | (simp; done)) (by first | assumption | omega | (simp; omega) | (simp; done)) (by first | rfl | assumption | omega | (simp; done)) | exact other_c _ _ _ _ _ _ _ (by first | assumption | exact RdL.app (by assumption) _ | exact RdL_hj rfl (by simp) | exact RdL_h0 rfl (by simp) | exact RdL_nil | exact RdL_emp) (by first | rfl | assumption | omega | (simp; done)) (by first | assumption | omega | (simp; omega) | (simp; done)) (by first | assumption | omega | (simp; omega) | (simp; done)) (by first | assumption | omega | (simp; omega) | (simp; done)) (by first | assumption | omega | (simp; omega) | (simp; done)) (by first | assumption | omega | (simp; omega) | (simp; done)) (by first | assumption | omega | (simp; omega) | (simp; done))))
        | (clear hK K)
        | fail)
      refine EndA_rows [some 2] hcl (by first | exact Or.inr rfl | exact Or.inl rfl) (by simp only [Try.results7, resA, aresL, go_sem, reduceIte, reduceCtorEq, Nat.reduceAdd, Nat.reduceMul, Nat.reduceSub, Nat.reduceLeDiff, Nat.lt_irrefl, Nat.reduceLT, Nat.reduceEqDiff, Nat.reduceBEq, Int.reduceLE, Int.reduceLT, Int.reduceToNat, w64, eq_self] <;> rfl) (by decide) ?_ ?_ ⟨rfl, rfl⟩
      rotate_left
      · repeat' (first | exact trivial | apply TdT.tup | apply TdT.one | apply TdL.agg | apply TdL.cell | exact TdB.old _ trivial rfl | exact TdB.own 0 2 _ _ _ _ rfl _ rfl rfl | exact TdB.junk _ | exact TdB.old _ (by assumption) (by assumption) | refine And.intro ?_ ?_)
      all_goals (repeat' (first | (with_reducible exact RowOk.none) | ((with_reducible apply RowOk.emp); exact rfl) | ((with_reducible apply RowOk.eq); (exact rfl); rotate_left; (first | (with_reducible exact scal_int _ _) | (with_reducible exact scal_flt _ _) | (with_reducible exact scal_bool _) | (intro c hc; cases hc; done) | (simp [LV.isCell, bnd]; done))) | exact trivial | refine And.intro ?_ ?_))
      all_goals (try rfl)
    | none =>
      have hch2 := fun (H : Hp) (b : Nat) (hb : H[b]? = some ⟨0, false, 2, 1, cs.map (LV.int .i64)⟩) => change_none b 0 2 ho s 0 f cs H hb (by omega) (by omega) hc2
      obtain ⟨RES, hRES⟩ : ∃ RES, kick s m 64 0 cs f hh = RES := ⟨_, rfl⟩
      simp only [hRES]
      (refine FunH_body tyOk Try.func7 rfl (by kernel_rfl) Try.ntmps7 (fun hcl hbd => ?_); simp only [List.length_cons, List.length_nil, Nat.reduceAdd, Nat.reduceSub, List.replicate, List.cons_append, List.nil_append])
      repeat' (first
        | ((with_reducible refine hK _ _ ?_); clear hK K)
        | ((with_reducible refine hK _ ?_); clear hK K; try simp only [])
        | ((first | (with_reducible show AOp _ _ _ _ _ _ _) | (with_reducible show AQOp _ _ _ _ _ _ _)); simp (disch := first | ((with_reducible show liveO _ _ _ = true); first | assumption | (exact liveO_setS (by assumption)) | (exact PtL.live (by assumption)) | (exact PtL.liveA (by assumption) _) | (simp only [go_sem]; done)) | omega | assumption | rfl | (simp only [go_sem]; first | done | omega)) only [go_sem, reduceIte, reduceCtorEq, Nat.reduceAdd, Nat.reduceMul, Nat.reduceSub, Nat.reduceLeDiff, Nat.lt_irrefl, Nat.reduceLT, Nat.reduceEqDiff, Nat.reduceBEq, Int.reduceLE, Int.reduceLT, Int.reduceToNat, w64, eq_self, h.isCell, e1, e2, hhe, hfe, hoe])
        | (with_reducible refine AW_seq (fun K hK => ?_))
        | (with_reducible refine AW_region tyOk ?_)
        | ((with_reducible apply AW_tree (id := 5) tyOk 13); (kernel_rfl); (exact rfl))
        | ((with_reducible refine AW_drawn (id := 11) tyOk 11 ?_ ?_ ?_); (kernel_rfl); (kernel_rfl); simp only [List.take_succ_cons, List.take_zero, List.drop_succ_cons, List.drop_zero])
        | ((with_reducible refine AAny_leaf (by decide +kernel) ?_); exact ⟨rfl, rfl⟩)
        | (with_reducible refine AAny_pure 1 rfl rfl (by decide +kernel) (by decide +kernel) (fun K hK => ?_))
        | (with_reducible refine AAny_pure 2 rfl rfl (by decide +kernel) (by decide +kernel) (fun K hK => ?_))
        | (with_reducible refine AAny_pure 4 rfl rfl (by decide +kernel) (by decide +kernel) (fun K hK => ?_))
        | (with_reducible refine AAny_pure 7 rfl rfl (by decide +kernel) (by decide +kernel) (fun K hK => ?_))
        | (with_reducible refine AAny_pure 8 rfl rfl (by decide +kernel) (by decide +kernel) (fun K hK => ?_))
        | (with_reducible refine AAny_pure 10 rfl rfl (by decide +kernel) (by decide +kernel) (fun K hK => ?_))
        | (with_reducible refine AAny_pure 12 rfl rfl (by decide +kernel) (by decide +kernel) (fun K hK => ?_))
        | (with_reducible refine AAny_step 5 [6] (by decide +kernel) ?_)
        | (with_reducible refine AAny_step 5 [9] (by decide +kernel) ?_)
        | (with_reducible refine AAny_step 0 [] (by decide +kernel) ?_)
        | (with_reducible refine AAny_step 3 [] (by decide +kernel) ?_)
        | (with_reducible refine AAny_step 5 [] (by decide +kernel) ?_)
        | (with_reducible refine AAny_step 6 [] (by decide +kernel) ?_)
        | (with_reducible refine AAny_step 9 [] (by decide +kernel) ?_)
        | (with_reducible refine AAny_step 11 [] (by decide +kernel) ?_)
        | (with_reducible refine AAll_cons rfl (fun K hK => ?_) ?_)
        | (with_reducible exact AAll_nil)
        | ((with_reducible show thenA _ _ _ _ _); simp only [thenA, blockA, if_true, if_false, reduceIte])
        | ((with_reducible show blockA _ _ _ _ _); simp only [thenA, blockA, if_true, if_false, reduceIte, Nat.reduceEqDiff, reduceCtorEq])
        | (with_reducible refine AOps_cons (fun K hK => ?_))
        | (with_reducible refine AQOps_cons (fun K hK => ?_))
        | ((with_reducible refine AQOps_nil ?_); try simp only [thenA, blockA, if_true, if_false, reduceIte, Nat.reduceEqDiff, reduceCtorEq])
        | ((with_reducible refine AOps_nil ?_); try simp only [thenA, blockA, if_true, if_false, reduceIte, Nat.reduceEqDiff, reduceCtorEq])
        | (with_reducible refine AW_block ?_)
        | ((first | (with_reducible refine AW_ret ?_) | (with_reducible refine AW_skip ?_) | (with_reducible refine AW_exit ?_)); try simp only [thenA, blockA, if_true, if_false, reduceIte, Nat.reduceEqDiff, reduceCtorEq])
        | ((with_reducible show AW _ _ (.cond _ _ _) _ _ _); refine AW_cond rfl (fun hg => ?_) (fun hg => ?_) <;> first | (exfalso; simp only [reduceCtorEq] at hg; done) | ((try simp only [Bool.not_eq_true', Bool.not_eq_false', decide_eq_true_eq, decide_eq_false_iff_not] at hg); try (exfalso; omega)))
        | ((with_reducible show _ ∧ _); refine And.intro (fun hg => ?_) (fun hg => ?_) <;> (try simp only [Bool.not_eq_true', Bool.not_eq_false'] at hg) <;> simp only [hg] <;> (try simp only [decide_eq_true_eq, decide_eq_false_iff_not] at hg) <;> (try (exfalso; omega)))
        | ((first | (with_reducible apply FunH_intro) | (with_reducible apply AQ_intro)); (first | exact hfin _ _ (RdL_hj rfl (by simp)) | exact hch _ _ ((hp_getj _ _ _).trans rfl) | exact hoth _ _ (RdL_hj rfl (by simp)) | exact hch2 _ _ ((hp_getj _ _ _).trans rfl) | exact iValidFingers_c _ _ _ _ (by first | assumption | exact RdL.app (by assumption) _ | exact RdL_hj rfl (by simp) | exact RdL_h0 rfl (by simp) | exact RdL_nil | exact RdL_emp) (by first | assumption | omega | (simp; omega) | (simp; done)) | exact IsKey_c _ _ | exact copyFingers_c _ _ _ _ (by first | assumption | exact RdL.app (by assumption) _ | exact RdL_hj rfl (by simp) | exact RdL_h0 rfl (by simp) | exact RdL_nil | exact RdL_emp) (by first | assumption | omega | (simp; omega) | (simp; done)) (by first | assumption | omega | (simp; omega) | (simp; done)) | exact finger_c _ _ _ _ _ _ (by first | assumption | exact RdL.app (by assumption) _ | exact RdL_hj rfl (by simp) | exact RdL_h0 rfl (by simp) | exact RdL_nil | exact RdL_emp) (by first | rfl | assumption | omega | (simp; done)) (by first | assumption | omega | (simp; omega) | (simp; done)) (by first | assumption | omega | (simp; omega) | (simp; done)) (by first | assumption | omega | (simp; omega) | (simp; done)) (by first | assumption | omega | (simp; omega) | (simp; done)) (by first | assumption | omega | (simp; omega) | (simp; done)) (by first | assumption | omega | (simp; omega) | (simp; done)) | exact change_some _ _ _ _ _ _ _ _ _ _ (by first | assumption | exact (hp_getj _ _ _).trans rfl | exact (hp_get0 _ _).trans rfl) (by first | assumption | omega | (simp; omega) | (simp; done)) (by first | assumption | omega | (simp; omega) | (simp; done)) (by first | rfl | assumption | omega | (simp; done)) | exact change_none _ _ _ _ _ _ _ _ _ (by first | assumption | exact (hp_getj _ _ _).trans rfl | exact (hp_get0 _ _).trans rfl) (by first | assumption | omega | (simp; omega) | (simp; done)) (by first | assumption | omega | (simp; omega) | (simp; done)) (by first | rfl | assumption | omega | (simp; done)) | exact other_c _ _ _ _ _ _ _ (by first | assumption | exact RdL.app (by assumption) _ | exact RdL_hj rfl (by simp) | exact RdL_h0 rfl (by simp) | exact RdL_nil | exact RdL_emp) (by first | rfl | assumption | omega | (simp; done)) (by first | assumption | omega | (simp; omega) | (simp; done)) (by first | assumption | omega | (simp; omega) | (simp; done)) (by first | assumption | omega | (simp; omega) | (simp; done)) (by first | assumption | omega | (simp; omega) | (simp; done)) (by first | assumption | omega | (simp; omega) | (simp; done)) (by first | assumption | omega | (simp; omega) | (simp; done))))
        | (clear hK K)
        | fail)
      refine AW_loopV [5, 7, 8, 9, 10, 42, 43, 44, 45, 46, 47, 48, 49, 50, 51, 52, 53, 54, 55, 56, 57, 58, 59, 60, 61, 62, 63, 64, 65, 66, 67, 68, 69] (fun q : Nat × List Int × Int × Nat => [(7, .int .i64 q.2.2.1), (8, .int .i64 (q.2.2.2 : Nat)), (42, .int .i64 (q.1 : Nat))]) (fun q => H ++ [⟨0, false, 28, 2, [.int .i64 s, y]⟩, ⟨0, false, 28, 2, [.int .i64 0, .nils]⟩, ⟨0, false, 2, 1, q.2.1.map (LV.int .i64)⟩, ⟨0, false, 28, 2, [.int .i64 s, .sl (H.length + 2) 0 0 cs.length none]⟩]) (fun q => q.1 ≤ 64 ∧ q.2.1.length = cs.length ∧ (∀ y ∈ q.2.1, 0 ≤ y ∧ y ≤ 255) ∧ (0 ≤ q.2.2.1 ∧ q.2.2.1 ≤ 255) ∧ q.2.2.2 < m ∧ kick s m (64 - q.1) q.1 q.2.1 q.2.2.1 q.2.2.2 = RES) (fun q => 64 - q.1) (0, cs, f, hh) ⟨Nat.zero_le _, rfl, hcs, bf, (by omega : hh < m), hRES⟩ ?_ rfl ?_
      · simp only [junkAll, setAll, List.foldl_cons, List.foldl_nil, List.set_cons_succ, List.set_cons_zero, JL, true_or, or_true, and_true, true_and, reduceCtorEq, false_or, or_false, LV.int.injEq, LV.bool.injEq, LV.flt.injEq, LV.sl.injEq, LV.ptr.injEq, eq_self, Int.natCast_add, Int.natCast_one, Int.natCast_zero, Int.ofNat_zero]
      · clear hch hch2 hfin hoth hRES
        intro ⟨i, ds, g, hq⟩ ⟨i1, i2, i3, i4, i5, i6⟩ K hK
        simp only at i1 i2 i3 i4 i5 i6
        simp only [junkAll, setAll, List.foldl_cons, List.foldl_nil, List.set_cons_succ, List.set_cons_zero]
        by_cases hi : i < 64
        · obtain ⟨n, hn64⟩ : ∃ n, 64 - i = n + 1 := ⟨63 - i, by omega⟩
          rw [hn64, kick] at i6
          obtain ⟨c, hc⟩ : ∃ c, 2 * hq + i % 2 = c := ⟨_, rfl⟩
          have hcl2 : c < ds.length := by omega
          have et : ((i : Nat) : Int).tmod 2 = ((i % 2 : Nat) : Int) := by rw [Int.tmod_eq_emod_of_nonneg (by omega)]; omega
          have ec : (2 : Int) * (hq : Nat) + ((i % 2 : Nat) : Int) = (c : Nat) := by omega
          have e0 : ((2 : Int) = 0) = False := by simp
          rw [hc] at i6
          have hgx := i3 _ (ix_mem ds c hcl2)
          obtain ⟨x, hx⟩ : ∃ x, ix ds c = x := ⟨_, rfl⟩
          rw [hx] at i6 hgx
          obtain ⟨es, hes⟩ : ∃ es, ds.set c g = es := ⟨_, rfl⟩
          have hel : es.length = cs.length := by rw [← hes, List.length_set]; exact i2
          have hei : ∀ y ∈ es, 0 ≤ y ∧ y ≤ 255 := by rw [← hes]; exact set_in i3 i4
          rw [hes] at i6
          obtain ⟨hP0, hP1⟩ := fgO_b (s := s) (f := x) hm.symm hq2 (by omega : 0 ≤ (hq : Int)) (by omega)
          obtain ⟨h2, h2e⟩ : ∃ h2 : Nat, fgO s m x hq = (h2 : Int) := ⟨(fgO s m x hq).toNat, by omega⟩
          rw [h2e, Int.toNat_natCast] at i6
          have hset : (ds.map (LV.int .i64)).set c (.int .i64 g) = es.map (LV.int .i64) := by rw [setI_map, hes]
          have hget : (ds.map (LV.int .i64))[c]? = some (.int .i64 x) := by rw [List.getElem?_map, ix_get? _ _ hcl2, hx]; rfl
          have hoth := fun (H : Hp) (y : LV) (hr : RdL H y (es.map (LV.int .i64))) => other_c x hq s y es m H hr (by omega) hm1 (by omega) (by omega) (by omega) bs.1 bs.2
          cases hc3 : chP es h2 0 with
          | some p =>
            rw [hc3] at i6
            simp only at i6
            have hch := fun (H : Hp) (b : Nat) (hb : H[b]? = some ⟨0, false, 2, 1, es.map (LV.int .i64)⟩) => change_some b 0 2 h2 p s 0 x es H hb (by omega) (by omega) hc3
            rw [hel] at hch
            subst i6
            repeat' (first
              | ((with_reducible refine hK _ _ ?_); clear hK K)
              | ((with_reducible refine hK _ ?_); clear hK K; try simp only [])
              | ((first | (with_reducible show AOp _ _ _ _ _ _ _) | (with_reducible show AQOp _ _ _ _ _ _ _)); simp (disch := first | ((with_reducible show liveO _ _ _ = true); first | assumption | (exact liveO_setS (by assumption)) | (exact PtL.live (by assumption)) | (exact PtL.liveA (by assumption) _) | (simp only [go_sem]; done)) | omega | assumption | rfl | (simp only [go_sem]; first | done | omega)) only [go_sem, reduceIte, reduceCtorEq, Nat.reduceAdd, Nat.reduceMul, Nat.reduceSub, Nat.reduceLeDiff, Nat.lt_irrefl, Nat.reduceLT, Nat.reduceEqDiff, Nat.reduceBEq, Int.reduceLE, Int.reduceLT, Int.reduceToNat, w64, eq_self, et, ec, e0, hset, hget, h2e, i2])
              | (with_reducible refine AW_seq (fun K hK => ?_))
              | (with_reducible refine AW_region tyOk ?_)
              | ((with_reducible apply AW_tree (id := 5) tyOk 13); (kernel_rfl); (exact rfl))
              | ((with_reducible refine AW_drawn (id := 11) tyOk 11 ?_ ?_ ?_); (kernel_rfl); (kernel_rfl); simp only [List.take_succ_cons, List.take_zero, List.drop_succ_cons, List.drop_zero])
              | ((with_reducible refine AAny_leaf (by decide +kernel) ?_); exact ⟨rfl, rfl⟩)
              | (with_reducible refine AAny_pure 1 rfl rfl (by decide +kernel) (by decide +kernel) (fun K hK => ?_))
              | (with_reducible refine AAny_pure 2 rfl rfl (by decide +kernel) (by decide +kernel) (fun K hK => ?_))
              | (with_reducible refine AAny_pure 4 rfl rfl (by decide +kernel) (by decide +kernel) (fun K hK => ?_))
              | (with_reducible refine AAny_pure 7 rfl rfl (by decide +kernel) (by decide +kernel) (fun K hK => ?_))
              | (with_reducible refine AAny_pure 8 rfl rfl (by decide +kernel) (by decide +kernel) (fun K hK => ?_))
              | (with_reducible refine AAny_pure 10 rfl rfl (by decide +kernel) (by decide +kernel) (fun K hK => ?_))
              | (with_reducible refine AAny_pure 12 rfl rfl (by decide +kernel) (by decide +kernel) (fun K hK => ?_))
              | (with_reducible refine AAny_step 5 [6] (by decide +kernel) ?_)
              | (with_reducible refine AAny_step 5 [9] (by decide +kernel) ?_)
              | (with_reducible refine AAny_step 0 [] (by decide +kernel) ?_)
              | (with_reducible refine AAny_step 3 [] (by decide +kernel) ?_)
              | (with_reducible refine AAny_step 5 [] (by decide +kernel) ?_)
              | (with_reducible refine AAny_step 6 [] (by decide +kernel) ?_)
              | (with_reducible refine AAny_step 9 [] (by decide +kernel) ?_)
              | (with_reducible refine AAny_step 11 [] (by decide +kernel) ?_)
              | (with_reducible refine AAll_cons rfl (fun K hK => ?_) ?_)
              | (with_reducible exact AAll_nil)
              | ((with_reducible show thenA _ _ _ _ _); simp only [thenA, blockA, if_true, if_false, reduceIte])
              | ((with_reducible show blockA _ _ _ _ _); simp only [thenA, blockA, if_true, if_false, reduceIte, Nat.reduceEqDiff, reduceCtorEq])
              | (with_reducible refine AOps_cons (fun K hK => ?_))
              | (with_reducible refine AQOps_cons (fun K hK => ?_))
              | ((with_reducible refine AQOps_nil ?_); try simp only [thenA, blockA, if_true, if_false, reduceIte, Nat.reduceEqDiff, reduceCtorEq])
              | ((with_reducible refine AOps_nil ?_); try simp only [thenA, blockA, if_true, if_false, reduceIte, Nat.reduceEqDiff, reduceCtorEq])
              | (with_reducible refine AW_block ?_)
              | ((first | (with_reducible refine AW_ret ?_) | (with_reducible refine AW_skip ?_) | (with_reducible refine AW_exit ?_)); try simp only [thenA, blockA, if_true, if_false, reduceIte, Nat.reduceEqDiff, reduceCtorEq])
              | ((with_reducible show AW _ _ (.cond _ _ _) _ _ _); refine AW_cond rfl (fun hg => ?_) (fun hg => ?_) <;> first | (exfalso; simp only [reduceCtorEq] at hg; done) | ((try simp only [Bool.not_eq_true', Bool.not_eq_false', decide_eq_true_eq, decide_eq_false_iff_not] at hg); try (exfalso; omega)))
              | ((with_reducible show _ ∧ _); refine And.intro (fun hg => ?_) (fun hg => ?_) <;> (try simp only [Bool.not_eq_true', Bool.not_eq_false'] at hg) <;> simp only [hg] <;> (try simp only [decide_eq_true_eq, decide_eq_false_iff_not] at hg) <;> (try (exfalso; omega)))
              | ((first | (with_reducible apply FunH_intro) | (with_reducible apply AQ_intro)); (first | exact hoth _ _ (RdL_hj rfl (by simp; omega)) | exact hch _ _ ((hp_getj _ _ _).trans rfl) | exact iValidFingers_c _ _ _ _ (by first | assumption | exact RdL.app (by assumption) _ | exact RdL_hj rfl (by simp) | exact RdL_h0 rfl (by simp) | exact RdL_nil | exact RdL_emp) (by first | assumption | omega | (simp; omega) | (simp; done)) | exact IsKey_c _ _ | exact copyFingers_c _ _ _ _ (by first | assumption | exact RdL.app (by assumption) _ | exact RdL_hj rfl (by simp) | exact RdL_h0 rfl (by simp) | exact RdL_nil | exact RdL_emp) (by first | assumption | omega | (simp; omega) | (simp; done)) (by first | assumption | omega | (simp; omega) | (simp; done)) | exact finger_c _ _ _ _ _ _ (by first | assumption | exact RdL.app (by assumption) _ | exact RdL_hj rfl (by simp) | exact RdL_h0 rfl (by simp) | exact RdL_nil | exact RdL_emp) (by first | rfl | assumption | omega | (simp; done)) (by first | assumption | omega | (simp; omega) | (simp; done)) (by first | assumption | omega | (simp; omega) | (simp; done)) (by first | assumption | omega | (simp; omega) | (simp; done)) (by first | assumption | omega | (simp; omega) | (simp; done)) (by first | assumption | omega | (simp; omega) | (simp; done)) (by first | assumption | omega | (simp; omega) | (simp; done)) | exact change_some _ _ _ _ _ _ _ _ _ _ (by first | assumption | exact (hp_getj _ _ _).trans rfl | exact (hp_get0 _ _).trans rfl) (by first | assumption | omega | (simp; omega) | (simp; done)) (by first | assumption | omega | (simp; omega) | (simp; done)) (by first | rfl | assumption | omega | (simp; done)) | exact change_none _ _ _ _ _ _ _ _ _ (by first | assumption | exact (hp_getj _ _ _).trans rfl | exact (hp_get0 _ _).trans rfl) (by first | assumption | omega | (simp; omega) | (simp; done)) (by first | assumption | omega | (simp; omega) | (simp; done)) (by first | rfl | assumption | omega | (simp; done)) | exact other_c _ _ _ _ _ _ _ (by first | assumption | exact RdL.app (by assumption) _ | exact RdL_hj rfl (by simp) | exact RdL_h0 rfl (by simp) | exact RdL_nil | exact RdL_emp) (by first | rfl | assumption | omega | (simp; done)) (by first | assumption | omega | (simp; omega) | (simp; done)) (by first | assumption | omega | (simp; omega) | (simp; done)) (by first | assumption | omega | (simp; omega) | (simp; done)) (by first | assumption | omega | (simp; omega) | (simp; done)) (by first | assumption | omega | (simp; omega) | (simp; done)) (by first | assumption | omega | (simp; omega) | (simp; done))))
              | (clear hK K)
              | fail)
            simp only [Option.isSome_some, Option.getD_some, if_true, List.length_set, hel]
            refine EndA_rows [some 2] hcl (by first | exact Or.inr rfl | exact Or.inl rfl) (by simp only [Try.results7, resA, aresL, go_sem, reduceIte, reduceCtorEq, Nat.reduceAdd, Nat.reduceMul, Nat.reduceSub, Nat.reduceLeDiff, Nat.lt_irrefl, Nat.reduceLT, Nat.reduceEqDiff, Nat.reduceBEq, Int.reduceLE, Int.reduceLT, Int.reduceToNat, w64, eq_self] <;> rfl) (by decide) ?_ ?_ ⟨rfl, rfl⟩
            rotate_left
            · repeat' (first | exact trivial | apply TdT.tup | apply TdT.one | apply TdL.agg | apply TdL.cell | exact TdB.old _ trivial rfl | exact TdB.own 0 2 _ _ _ _ rfl _ rfl rfl | exact TdB.junk _ | exact TdB.old _ (by assumption) (by assumption) | refine And.intro ?_ ?_)
            all_goals (repeat' (first | (with_reducible exact RowOk.none) | ((with_reducible apply RowOk.emp); exact rfl) | ((with_reducible apply RowOk.eq); (exact rfl); rotate_left; (first | (with_reducible exact scal_int _ _) | (with_reducible exact scal_flt _ _) | (with_reducible exact scal_bool _) | (intro c hc; cases hc; done) | (simp [LV.isCell, bnd]; done))) | exact trivial | refine And.intro ?_ ?_))
            all_goals (try rfl)
          | none =>
            rw [hc3] at i6
            simp only at i6
            have hch := fun (H : Hp) (b : Nat) (hb : H[b]? = some ⟨0, false, 2, 1, es.map (LV.int .i64)⟩) => change_none b 0 2 h2 s 0 x es H hb (by omega) (by omega) hc3
            rw [hel] at hch
            repeat' (first
              | ((with_reducible refine hK _ _ ?_); clear hK K)
              | ((with_reducible refine hK _ ?_); clear hK K; try simp only [])
              | ((first | (with_reducible show AOp _ _ _ _ _ _ _) | (with_reducible show AQOp _ _ _ _ _ _ _)); simp (disch := first | ((with_reducible show liveO _ _ _ = true); first | assumption | (exact liveO_setS (by assumption)) | (exact PtL.live (by assumption)) | (exact PtL.liveA (by assumption) _) | (simp only [go_sem]; done)) | omega | assumption | rfl | (simp only [go_sem]; first | done | omega)) only [go_sem, reduceIte, reduceCtorEq, Nat.reduceAdd, Nat.reduceMul, Nat.reduceSub, Nat.reduceLeDiff, Nat.lt_irrefl, Nat.reduceLT, Nat.reduceEqDiff, Nat.reduceBEq, Int.reduceLE, Int.reduceLT, Int.reduceToNat, w64, eq_self, et, ec, e0, hset, hget, h2e, i2])
              | (with_reducible refine AW_seq (fun K hK => ?_))
              | (with_reducible refine AW_region tyOk ?_)
              | ((with_reducible apply AW_tree (id := 5) tyOk 13); (kernel_rfl); (exact rfl))
              | ((with_reducible refine AW_drawn (id := 11) tyOk 11 ?_ ?_ ?_); (kernel_rfl); (kernel_rfl); simp only [List.take_succ_cons, List.take_zero, List.drop_succ_cons, List.drop_zero])
              | ((with_reducible refine AAny_leaf (by decide +kernel) ?_); exact ⟨rfl, rfl⟩)
              | (with_reducible refine AAny_pure 1 rfl rfl (by decide +kernel) (by decide +kernel) (fun K hK => ?_))
              | (with_reducible refine AAny_pure 2 rfl rfl (by decide +kernel) (by decide +kernel) (fun K hK => ?_))
              | (with_reducible refine AAny_pure 4 rfl rfl (by decide +kernel) (by decide +kernel) (fun K hK => ?_))
              | (with_reducible refine AAny_pure 7 rfl rfl (by decide +kernel) (by decide +kernel) (fun K hK => ?_))
              | (with_reducible refine AAny_pure 8 rfl rfl (by decide +kernel) (by decide +kernel) (fun K hK => ?_))
              | (with_reducible refine AAny_pure 10 rfl rfl (by decide +kernel) (by decide +kernel) (fun K hK => ?_))
              | (with_reducible refine AAny_pure 12 rfl rfl (by decide +kernel) (by decide +kernel) (fun K hK => ?_))
              | (with_reducible refine AAny_step 5 [6] (by decide +kernel) ?_)
              | (with_reducible refine AAny_step 5 [9] (by decide +kernel) ?_)
              | (with_reducible refine AAny_step 0 [] (by decide +kernel) ?_)
              | (with_reducible refine AAny_step 3 [] (by decide +kernel) ?_)
              | (with_reducible refine AAny_step 5 [] (by decide +kernel) ?_)
              | (with_reducible refine AAny_step 6 [] (by decide +kernel) ?_)
              | (with_reducible refine AAny_step 9 [] (by decide +kernel) ?_)
              | (with_reducible refine AAny_step 11 [] (by decide +kernel) ?_)
              | (with_reducible refine AAll_cons rfl (fun K hK => ?_) ?_)
              | (with_reducible exact AAll_nil)
              | ((with_reducible show thenA _ _ _ _ _); simp only [thenA, blockA, if_true, if_false, reduceIte])
              | ((with_reducible show blockA _ _ _ _ _); simp only [thenA, blockA, if_true, if_false, reduceIte, Nat.reduceEqDiff, reduceCtorEq])
              | (with_reducible refine AOps_cons (fun K hK => ?_))
              | (with_reducible refine AQOps_cons (fun K hK => ?_))
              | ((with_reducible refine AQOps_nil ?_); try simp only [thenA, blockA, if_true, if_false, reduceIte, Nat.reduceEqDiff, reduceCtorEq])
              | ((with_reducible refine AOps_nil ?_); try simp only [thenA, blockA, if_true, if_false, reduceIte, Nat.reduceEqDiff, reduceCtorEq])
              | (with_reducible refine AW_block ?_)
              | ((first | (with_reducible refine AW_ret ?_) | (with_reducible refine AW_skip ?_) | (with_reducible refine AW_exit ?_)); try simp only [thenA, blockA, if_true, if_false, reduceIte, Nat.reduceEqDiff, reduceCtorEq])
              | ((with_reducible show AW _ _ (.cond _ _ _) _ _ _); refine AW_cond rfl (fun hg => ?_) (fun hg => ?_) <;> first | (exfalso; simp only [reduceCtorEq] at hg; done) | ((try simp only [Bool.not_eq_true', Bool.not_eq_false', decide_eq_true_eq, decide_eq_false_iff_not] at hg); try (exfalso; omega)))
              | ((with_reducible show _ ∧ _); refine And.intro (fun hg => ?_) (fun hg => ?_) <;> (try simp only [Bool.not_eq_true', Bool.not_eq_false'] at hg) <;> simp only [hg] <;> (try simp only [decide_eq_true_eq, decide_eq_false_iff_not] at hg) <;> (try (exfalso; omega)))
              | ((first | (with_reducible apply FunH_intro) | (with_reducible apply AQ_intro)); (first | exact hoth _ _ (RdL_hj rfl (by simp; omega)) | exact hch _ _ ((hp_getj _ _ _).trans rfl) | exact iValidFingers_c _ _ _ _ (by first | assumption | exact RdL.app (by assumption) _ | exact RdL_hj rfl (by simp) | exact RdL_h0 rfl (by simp) | exact RdL_nil | exact RdL_emp) (by first | assumption | omega | (simp; omega) | (simp; done)) | exact IsKey_c _ _ | exact copyFingers_c _ _ _ _ (by first | assumption | exact RdL.app (by assumption) _ | exact RdL_hj rfl (by simp) | exact RdL_h0 rfl (by simp) | exact RdL_nil | exact RdL_emp) (by first | assumption | omega | (simp; omega) | (simp; done)) (by first | assumption | omega | (simp; omega) | (simp; done)) | exact finger_c _ _ _ _ _ _ (by first | assumption | exact RdL.app (by assumption) _ | exact RdL_hj rfl (by simp) | exact RdL_h0 rfl (by simp) | exact RdL_nil | exact RdL_emp) (by first | rfl | assumption | omega | (simp; done)) (by first | assumption | omega | (simp; omega) | (simp; done)) (by first | assumption | omega | (simp; omega) | (simp; done)) (by first | assumption | omega | (simp; omega) | (simp; done)) (by first | assumption | omega | (simp; omega) | (simp; done)) (by first | assumption | omega | (simp; omega) | (simp; done)) (by first | assumption | omega | (simp; omega) | (simp; done)) | exact change_some _ _ _ _ _ _ _ _ _ _ (by first | assumption | exact (hp_getj _ _ _).trans rfl | exact (hp_get0 _ _).trans rfl) (by first | assumption | omega | (simp; omega) | (simp; done)) (by first | assumption | omega | (simp; omega) | (simp; done)) (by first | rfl | assumption | omega | (simp; done)) | exact change_none _ _ _ _ _ _ _ _ _ (by first | assumption | exact (hp_getj _ _ _).trans rfl | exact (hp_get0 _ _).trans rfl) (by first | assumption | omega | (simp; omega) | (simp; done)) (by first | assumption | omega | (simp; omega) | (simp; done)) (by first | rfl | assumption | omega | (simp; done)) | exact other_c _ _ _ _ _ _ _ (by first | assumption | exact RdL.app (by assumption) _ | exact RdL_hj rfl (by simp) | exact RdL_h0 rfl (by simp) | exact RdL_nil | exact RdL_emp) (by first | rfl | assumption | omega | (simp; done)) (by first | assumption | omega | (simp; omega) | (simp; done)) (by first | assumption | omega | (simp; omega) | (simp; done)) (by first | assumption | omega | (simp; omega) | (simp; done)) (by first | assumption | omega | (simp; omega) | (simp; done)) (by first | assumption | omega | (simp; omega) | (simp; done)) (by first | assumption | omega | (simp; omega) | (simp; done))))
              | (clear hK K)
              | fail)
            refine hK _ _ (i + 1, es, x, h2) ⟨by simp only; omega, hel, hei, hgx, by simp only; omega, by simp only; rw [show 64 - (i + 1) = n by omega]; exact i6⟩ (by simp only; omega) ?_ rfl
            simp only [junkAll, setAll, List.foldl_cons, List.foldl_nil, List.set_cons_succ, List.set_cons_zero, JL, true_or, or_true, and_true, true_and, reduceCtorEq, false_or, or_false, LV.int.injEq, LV.bool.injEq, LV.flt.injEq, LV.sl.injEq, LV.ptr.injEq, eq_self, Int.natCast_add, Int.natCast_one, Int.natCast_zero, Int.ofNat_zero]
        · have ei : 64 - i = 0 := by omega
          rw [ei, kick] at i6
          subst i6
          repeat' (first
            | ((with_reducible refine hK _ _ ?_); clear hK K)
            | ((with_reducible refine hK _ ?_); clear hK K; try simp only [])
            | ((first | (with_reducible show AOp _ _ _ _ _ _ _) | (with_reducible show AQOp _ _ _ _ _ _ _)); simp (disch := first | ((with_reducible show liveO _ _ _ = true); first | assumption | (exact liveO_setS (by assumption)) | (exact PtL.live (by assumption)) | (exact PtL.liveA (by assumption) _) | (simp only [go_sem]; done)) | omega | assumption | rfl | (simp only [go_sem]; first | done | omega)) only [go_sem, reduceIte, reduceCtorEq, Nat.reduceAdd, Nat.reduceMul, Nat.reduceSub, Nat.reduceLeDiff, Nat.lt_irrefl, Nat.reduceLT, Nat.reduceEqDiff, Nat.reduceBEq, Int.reduceLE, Int.reduceLT, Int.reduceToNat, w64, eq_self])
            | (with_reducible refine AW_seq (fun K hK => ?_))
            | (with_reducible refine AW_region tyOk ?_)
            | ((with_reducible apply AW_tree (id := 5) tyOk 13); (kernel_rfl); (exact rfl))
            | ((with_reducible refine AW_drawn (id := 11) tyOk 11 ?_ ?_ ?_); (kernel_rfl); (kernel_rfl); simp only [List.take_succ_cons, List.take_zero, List.drop_succ_cons, List.drop_zero])
            | ((with_reducible refine AAny_leaf (by decide +kernel) ?_); exact ⟨rfl, rfl⟩)
            | (with_reducible refine AAny_step 5 [6, 7, 8, 10] (by decide +kernel) ?_)
            | (with_reducible refine AAny_step 5 [6, 7, 8] (by decide +kernel) ?_)
            | (with_reducible refine AAny_step 5 [6, 7, 10] (by decide +kernel) ?_)
            | (with_reducible refine AAny_step 5 [6, 8, 10] (by decide +kernel) ?_)
            | (with_reducible refine AAny_step 5 [7, 8, 10] (by decide +kernel) ?_)
            | (with_reducible refine AAny_step 6 [7, 8, 10] (by decide +kernel) ?_)
            | (with_reducible refine AAny_step 0 [1, 2] (by decide +kernel) ?_)
            | (with_reducible refine AAny_step 5 [6, 7] (by decide +kernel) ?_)
            | (with_reducible refine AAny_step 5 [6, 8] (by decide +kernel) ?_)
            | (with_reducible refine AAny_step 5 [6, 10] (by decide +kernel) ?_)
            | (with_reducible refine AAny_step 5 [7, 8] (by decide +kernel) ?_)
            | (with_reducible refine AAny_step 5 [7, 10] (by decide +kernel) ?_)
            | (with_reducible refine AAny_step 5 [8, 10] (by decide +kernel) ?_)
            | (with_reducible refine AAny_step 5 [9, 10] (by decide +kernel) ?_)
            | (with_reducible refine AAny_step 6 [7, 8] (by decide +kernel) ?_)
            | (with_reducible refine AAny_step 6 [7, 10] (by decide +kernel) ?_)
            | (with_reducible refine AAny_step 6 [8, 10] (by decide +kernel) ?_)
            | (with_reducible refine AAny_step 7 [8, 10] (by decide +kernel) ?_)
            | (with_reducible refine AAny_step 0 [1] (by decide +kernel) ?_)
            | (with_reducible refine AAny_step 0 [2] (by decide +kernel) ?_)
            | (with_reducible refine AAny_step 1 [2] (by decide +kernel) ?_)
            | (with_reducible refine AAny_step 5 [6] (by decide +kernel) ?_)
            | (with_reducible refine AAny_step 5 [7] (by decide +kernel) ?_)
            | (with_reducible refine AAny_step 5 [8] (by decide +kernel) ?_)
            | (with_reducible refine AAny_step 5 [9] (by decide +kernel) ?_)
            | (with_reducible refine AAny_step 5 [10] (by decide +kernel) ?_)
            | (with_reducible refine AAny_step 6 [7] (by decide +kernel) ?_)
            | (with_reducible refine AAny_step 6 [8] (by decide +kernel) ?_)
            | (with_reducible refine AAny_step 6 [10] (by decide +kernel) ?_)
            | (with_reducible refine AAny_step 7 [8] (by decide +kernel) ?_)
            | (with_reducible refine AAny_step 7 [10] (by decide +kernel) ?_)
            | (with_reducible refine AAny_step 8 [10] (by decide +kernel) ?_)
            | (with_reducible refine AAny_step 9 [10] (by decide +kernel) ?_)
            | (with_reducible refine AAny_step 0 [] (by decide +kernel) ?_)
            | (with_reducible refine AAny_step 1 [] (by decide +kernel) ?_)
            | (with_reducible refine AAny_step 2 [] (by decide +kernel) ?_)
            | (with_reducible refine AAny_step 3 [] (by decide +kernel) ?_)
            | (with_reducible refine AAny_step 4 [] (by decide +kernel) ?_)
            | (with_reducible refine AAny_step 5 [] (by decide +kernel) ?_)
            | (with_reducible refine AAny_step 6 [] (by decide +kernel) ?_)
            | (with_reducible refine AAny_step 7 [] (by decide +kernel) ?_)
            | (with_reducible refine AAny_step 8 [] (by decide +kernel) ?_)
            | (with_reducible refine AAny_step 9 [] (by decide +kernel) ?_)
            | (with_reducible refine AAny_step 10 [] (by decide +kernel) ?_)
            | (with_reducible refine AAny_step 11 [] (by decide +kernel) ?_)
            | (with_reducible refine AAny_step 12 [] (by decide +kernel) ?_)
            | (with_reducible refine AAll_cons rfl (fun K hK => ?_) ?_)
            | (with_reducible exact AAll_nil)
            | ((with_reducible show thenA _ _ _ _ _); simp only [thenA, blockA, if_true, if_false, reduceIte])
            | (with_reducible refine AOps_cons (fun K hK => ?_))
            | (with_reducible refine AQOps_cons (fun K hK => ?_))
            | ((with_reducible refine AQOps_nil ?_); try simp only [thenA, blockA, if_true, if_false, reduceIte, Nat.reduceEqDiff, reduceCtorEq])
            | ((with_reducible refine AOps_nil ?_); try simp only [thenA, blockA, if_true, if_false, reduceIte, Nat.reduceEqDiff, reduceCtorEq])
            | (with_reducible refine AW_block ?_)
            | ((first | (with_reducible refine AW_ret ?_) | (with_reducible refine AW_skip ?_) | (with_reducible refine AW_exit ?_)); try simp only [thenA, blockA, if_true, if_false, reduceIte, Nat.reduceEqDiff, reduceCtorEq])
            | ((with_reducible show AW _ _ (.cond _ _ _) _ _ _); refine AW_cond rfl (fun hg => ?_) (fun hg => ?_) <;> first | (exfalso; simp only [reduceCtorEq] at hg; done) | ((try simp only [Bool.not_eq_true', Bool.not_eq_false', decide_eq_true_eq, decide_eq_false_iff_not] at hg); try (exfalso; omega)))
            | ((with_reducible show _ ∧ _); refine And.intro (fun hg => ?_) (fun hg => ?_) <;> (try simp only [Bool.not_eq_true', Bool.not_eq_false'] at hg) <;> simp only [hg] <;> (try simp only [decide_eq_true_eq, decide_eq_false_iff_not] at hg) <;> (try (exfalso; omega)))
            | ((first | (with_reducible apply FunH_intro) | (with_reducible apply AQ_intro)); (first | exact iValidFingers_c _ _ _ _ (by first | assumption | exact RdL.app (by assumption) _ | exact RdL_hj rfl (by simp) | exact RdL_h0 rfl (by simp) | exact RdL_nil | exact RdL_emp) (by first | assumption | omega | (simp; omega) | (simp; done)) | exact IsKey_c _ _ | exact copyFingers_c _ _ _ _ (by first | assumption | exact RdL.app (by assumption) _ | exact RdL_hj rfl (by simp) | exact RdL_h0 rfl (by simp) | exact RdL_nil | exact RdL_emp) (by first | assumption | omega | (simp; omega) | (simp; done)) (by first | assumption | omega | (simp; omega) | (simp; done)) | exact finger_c _ _ _ _ _ _ (by first | assumption | exact RdL.app (by assumption) _ | exact RdL_hj rfl (by simp) | exact RdL_h0 rfl (by simp) | exact RdL_nil | exact RdL_emp) (by first | rfl | assumption | omega | (simp; done)) (by first | assumption | omega | (simp; omega) | (simp; done)) (by first | assumption | omega | (simp; omega) | (simp; done)) (by first | assumption | omega | (simp; omega) | (simp; done)) (by first | assumption | omega | (simp; omega) | (simp; done)) (by first | assumption | omega | (simp; omega) | (simp; done)) (by first | assumption | omega | (simp; omega) | (simp; done)) | exact change_some _ _ _ _ _ _ _ _ _ _ (by first | assumption | exact (hp_getj _ _ _).trans rfl | exact (hp_get0 _ _).trans rfl) (by first | assumption | omega | (simp; omega) | (simp; done)) (by first | assumption | omega | (simp; omega) | (simp; done)) (by first | rfl | assumption | omega | (simp; done)) | exact change_none _ _ _ _ _ _ _ _ _ (by first | assumption | exact (hp_getj _ _ _).trans rfl | exact (hp_get0 _ _).trans rfl) (by first | assumption | omega | (simp; omega) | (simp; done)) (by first | assumption | omega | (simp; omega) | (simp; done)) (by first | rfl | assumption | omega | (simp; done)) | exact other_c _ _ _ _ _ _ _ (by first | assumption | exact RdL.app (by assumption) _ | exact RdL_hj rfl (by simp) | exact RdL_h0 rfl (by simp) | exact RdL_nil | exact RdL_emp) (by first | rfl | assumption | omega | (simp; done)) (by first | assumption | omega | (simp; omega) | (simp; done)) (by first | assumption | omega | (simp; omega) | (simp; done)) (by first | assumption | omega | (simp; omega) | (simp; done)) (by first | assumption | omega | (simp; omega) | (simp; done)) (by first | assumption | omega | (simp; omega) | (simp; done)) (by first | assumption | omega | (simp; omega) | (simp; done))))
            | (clear hK K)
            | fail)
          simp only [Option.isSome_none, Option.getD_none, if_false, Bool.false_eq_true, List.length_nil, List.map_nil]
          first | (refine EndA_rows0 [none] hcl (by first | exact Or.inr rfl | exact Or.inl rfl) (by simp only [Try.results7, resA, aresL, go_sem, reduceIte, reduceCtorEq, Nat.reduceAdd, Nat.reduceMul, Nat.reduceSub, Nat.reduceLeDiff, Nat.lt_irrefl, Nat.reduceLT, Nat.reduceEqDiff, Nat.reduceBEq, Int.reduceLE, Int.reduceLT, Int.reduceToNat, w64, eq_self] <;> rfl) (by decide) ?_ ?_ ⟨rfl, rfl⟩) | (refine EndA_rows [none] hcl (by first | exact Or.inr rfl | exact Or.inl rfl) (by simp only [Try.results7, resA, aresL, go_sem, reduceIte, reduceCtorEq, Nat.reduceAdd, Nat.reduceMul, Nat.reduceSub, Nat.reduceLeDiff, Nat.lt_irrefl, Nat.reduceLT, Nat.reduceEqDiff, Nat.reduceBEq, Int.reduceLE, Int.reduceLT, Int.reduceToNat, w64, eq_self] <;> rfl) (by decide) ?_ ?_ ⟨rfl, rfl⟩)
          rotate_left
          · repeat' (first | exact trivial | apply TdT.tup | apply TdT.one | apply TdL.agg | apply TdL.cell | exact TdB.old _ trivial rfl | exact TdB.virt 0 rfl | exact TdB.junk _ | exact TdB.old _ (by assumption) (by assumption) | refine And.intro ?_ ?_)
          all_goals (repeat' (first | (with_reducible exact RowOk.none) | ((with_reducible apply RowOk.emp); exact rfl) | ((with_reducible apply RowOk.eq); (exact rfl); rotate_left; (first | (with_reducible exact scal_int _ _) | (with_reducible exact scal_flt _ _) | (with_reducible exact scal_bool _) | (intro c hc; cases hc; done) | (simp [LV.isCell, bnd]; done))) | exact trivial | refine And.intro ?_ ?_))
          all_goals (try rfl)
end Go.Proofs.Ythcbbnigpkkkiaa
