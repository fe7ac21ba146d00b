/- A copy of levels in the abstract machine: the reference's side. -/
import Derived.Test.YtonlgkecphijoaaYe
import Derived.Test.YtonlgkecphijoaaYd
namespace Go.Proofs.Ytonlgkecphijoaa
open Go.RowKit
set_option linter.unusedSimpArgs false
set_option linter.unusedVariables false
set_option maxRecDepth 100000

theorem LS.add {H X : Hp} {A v : Nat} {P : List (Nat × Nat × List Nat)} (h : LS H X A v P) (q : Nat × Nat × List Nat) (hi : X[q.1]? = some (oR q)) (h1 : H.length ≤ q.1) (h2 : q.1 ≠ A) (h3 : ∀ k, k < P.length → (ix P k).1 ≠ q.1) :
    LS H (X.set A ⟨v + 1, false, 41, 1, P.map cR ++ [cR q]⟩) A (v + 1) (P ++ [q]) := by
  have hA := h.ltA
  refine ⟨pre_set h.pre h.lo _, ?_, h.lo, fun k hk => ?_, fun j k hj hk hjk => ?_⟩
  · rw [List.getElem?_set_self hA, List.map_append]; rfl
  · rw [List.length_append] at hk
    rcases Nat.lt_or_ge k P.length with h5 | h5
    · rw [ix_appL h5]
      obtain ⟨r1, r2, r3⟩ := h.row k h5
      exact ⟨by rw [List.getElem?_set_ne (Ne.symm r3)]; exact r1, r2, r3⟩
    · obtain rfl : k = P.length := by simp only [List.length_cons, List.length_nil] at hk; omega
      rw [ix_appN]
      exact ⟨by rw [List.getElem?_set_ne (Ne.symm h2)]; exact hi, h1, h2⟩
  · rw [List.length_append] at hj hk
    simp only [List.length_cons, List.length_nil] at hj hk
    rcases Nat.lt_or_ge j P.length with h5 | h5
    · rcases Nat.lt_or_ge k P.length with h6 | h6
      · rw [ix_appL h5, ix_appL h6]; exact h.nd j k h5 h6 hjk
      · obtain rfl : k = P.length := by omega
        rw [ix_appL h5, ix_appN]; exact h3 j h5
    · obtain rfl : j = P.length := by omega
      rw [ix_appN, ix_appL (by omega)]; exact Ne.symm (h3 k (by omega))
structure SO (H Z : Hp) (B : Nat) (r s : Int) (A v : Nat) (P : List (Nat × Nat × List Nat)) : Prop where
  ls : LS H Z A v P
  box : Z[B + 1]? = some (bxL r s A v P.length)
  res : Z[B]? = some rsL
  lo : H.length ≤ B
  nA : A ≠ B ∧ A ≠ B + 1
  nk : ∀ k, k < P.length → (ix P k).1 ≠ B ∧ (ix P k).1 ≠ B + 1
section
variable {H Z : Hp} {B A v k : Nat} {r s : Int} {P : List (Nat × Nat × List Nat)}
theorem SO.ltB (h : SO H Z B r s A v P) : B + 1 < Z.length := lt_ofX h.box
theorem SO.lvB (h : SO H Z B r s A v P) : liveO Z (B + 1) 0 = true := liveO_at h.box
theorem SO.lvBA (h : SO H Z B r s A v P) (L : Hp) : liveO (Z ++ L) (B + 1) 0 = true := liveO_at (at_app h.box L)
theorem SO.lvA (h : SO H Z B r s A v P) : liveO Z A v = true := liveO_at h.ls.out
theorem SO.lvAA (h : SO H Z B r s A v P) (L : Hp) : liveO (Z ++ L) A v = true := liveO_at (at_app h.ls.out L)
theorem SO.gB (h : SO H Z B r s A v P) (j : Nat) : hget Z (B + 1) 0 j = ([.int .i64 r, .int .i64 s, .sl A v 0 P.length none] : List LV)[j]? := hget_at h.box
theorem SO.gBA (h : SO H Z B r s A v P) (L : Hp) (j : Nat) : hget (Z ++ L) (B + 1) 0 j = ([.int .i64 r, .int .i64 s, .sl A v 0 P.length none] : List LV)[j]? := hget_at (at_app h.box L)
theorem SO.bS (h : SO H Z B r s A v P) (o : AO) (L : Hp) : ((Z ++ L).set A o)[B + 1]? = some (bxL r s A v P.length) := by rw [List.getElem?_set_ne h.nA.2]; exact at_app h.box L
theorem SO.bSl (h : SO H Z B r s A v P) (o : AO) (L : Hp) : liveO ((Z ++ L).set A o) (B + 1) 0 = true := liveO_at (h.bS o L)
theorem SO.bSp (h : SO H Z B r s A v P) (o : AO) (L : Hp) (x : LV) : hput ((Z ++ L).set A o) (B + 1) 0 2 [x] = some (((Z ++ L).set A o).set (B + 1) ⟨0, false, 27, 3, [.int .i64 r, .int .i64 s, x]⟩) := hputA_at (h.bS o L) (by simp)
theorem SO.app (h : SO H Z B r s A v P) (K : Hp) : SO H (Z ++ K) B r s A v P :=
  ⟨h.ls.app K, at_app h.box K, at_app h.res K, h.lo, h.nA, h.nk⟩
theorem SO.add (h : SO H Z B r s A v P) (q : Nat × Nat × List Nat) (hi : Z[q.1]? = some (oR q)) (h1 : H.length ≤ q.1) (h2 : q.1 ≠ A) (h3 : ∀ k, k < P.length → (ix P k).1 ≠ q.1) (h4 : q.1 ≠ B) (h5 : q.1 ≠ B + 1) :
    SO H ((Z.set A ⟨v + 1, false, 41, 1, P.map cR ++ [cR q]⟩).set (B + 1) (bxL r s A (v + 1) (P.length + 1))) B r s A (v + 1) (P ++ [q]) := by
  have hb := h.ltB
  have hn : ∀ k, k < (P ++ [q]).length → (ix (P ++ [q]) k).1 ≠ B ∧ (ix (P ++ [q]) k).1 ≠ B + 1 := fun k hk => by
    rw [List.length_append] at hk
    simp only [List.length_cons, List.length_nil] at hk
    rcases Nat.lt_or_ge k P.length with h6 | h6
    · rw [ix_appL h6]; exact h.nk k h6
    · obtain rfl : k = P.length := by omega
      rw [ix_appN]; exact ⟨h4, h5⟩
  have hlo := h.lo
  refine ⟨(h.ls.add q hi h1 h2 h3).setN _ (by omega) h.nA.2 (fun k hk => (hn k hk).2), ?_, ?_, h.lo, h.nA, hn⟩
  · rw [List.getElem?_set_self (by rw [List.length_set]; exact hb), List.length_append]; rfl
  · rw [List.getElem?_set_ne (by omega), List.getElem?_set_ne h.nA.1]; exact h.res
/-- A row behind the heap. -/
theorem SO.addN (h : SO H Z B r s A v P) (L : Hp) (j : Nat) (ws : List Nat) (hj : L[j]? = some ⟨0, false, 25, 1, ws.map Fw⟩) :
    SO H (((Z ++ L).set A ⟨v + 1, false, 41, 1, P.map cR ++ [.sl (Z.length + j) 0 0 ws.length none]⟩).set (B + 1) (bxL r s A (v + 1) (P.length + 1))) B r s A (v + 1) (P ++ [(Z.length + j, 0, ws)]) := by
  have h1 := h.ls.ltA
  have h2 := h.ls.lenX
  have h3 := h.ltB
  exact (h.app L).add (Z.length + j, 0, ws) (by rw [hp_getj, hj]; rfl) (by simp only; omega) (by simp only; omega) (fun k hk => by have := h.ls.ltk hk; simp only; omega) (by simp only; omega) (by simp only; omega)
end
theorem grownE {Z : Hp} {A C : Nat} (hA : A < Z.length) (hC : C < Z.length) (hne : A ≠ C) (T E o1 b o2 : AO) :
    (((Z ++ [T]).set A o1).set C b).set A o2 ++ [E] = ((Z ++ [T, E]).set A o2).set C b := by
  have h1 : C < (Z.set A o2).length := by rw [List.length_set]; exact hC
  rw [List.set_comm _ _ (Ne.symm hne), List.set_set, List.set_append_left _ _ hA, List.set_append_left _ _ h1, List.set_append_left _ _ hA, List.set_append_left _ _ h1, List.append_assoc]
  rfl
/-- A nil row behind the rows told as a new row of its own. -/
theorem grownW {He Z : Hp} {tm : List LV} {A C v : Nat} {P : List (Nat × Nat × List Nat)} (hA : A < Z.length) (hC : C < Z.length) (hne : A ≠ C) (T b : AO) :
    Wk He tm (((Z ++ [T]).set A ⟨v, false, 41, 1, P.map cR ++ [LV.nils]⟩).set C b) tm (((Z ++ [T, ⟨0, false, 25, 1, []⟩]).set A ⟨v, false, 41, 1, P.map cR ++ [.sl (Z.length + 1) 0 0 0 none]⟩).set C b) := by
  have hw := Wk.virtC (He := He) (tm := tm) (H := ((Z ++ [T]).set A ⟨v, false, 41, 1, P.map cR ++ [LV.nils]⟩).set C b) (o := ⟨v, false, 41, 1, P.map cR ++ [LV.nils]⟩) A P.length 25 1
    (by rw [List.getElem?_set_ne (Ne.symm hne), List.getElem?_set_self (by rw [List.length_append]; omega)]) (by simp)
  have e1 : (((Z ++ [T]).set A ⟨v, false, 41, 1, P.map cR ++ [LV.nils]⟩).set C b).length = Z.length + 1 := by simp
  have e2 : ∀ x : LV, (P.map cR ++ [LV.nils]).set P.length x = P.map cR ++ [x] := fun x => by rw [List.set_append_right _ _ (by simp), List.length_map, Nat.sub_self]; rfl
  rw [e1] at hw
  simp only [e2] at hw
  rw [grownE hA hC hne] at hw
  exact hw
set_option maxHeartbeats 4000000 in
theorem l05Own_c (id ver : Nat) (r s : Int) (v : LV) (L : List LV) (ls : List (List Nat)) (H : Hp) (hp : PtL H id ver [.int .i64 r, .int .i64 s, v]) (h : RdL H v L) (hL : RdLL H L (ls.map fun ws => ws.map some)) (hn : totL (ls.map fun ws => ws.map some) ≤ 1048576) :
    FunH Try.prog 17 [.ptr id ver 0] H fun r' X' => ∃ A v' P, r' = .agg [.int .i64 r, .int .i64 s, .sl A v' 0 P.length none] ∧ wR P = ls ∧ LS H X' A v' P := by
  have hlen := hL.length
  have hll := h.lenL hL
  rw [List.length_map] at hlen hll
  have htl := totL_w ls
  (refine FunH_body tyOk Try.func17 rfl (by kernel_rfl) Try.ntmps17 (fun hcl hbd => ?_); simp only [List.length_cons, List.length_nil, Nat.reduceAdd, Nat.reduceSub, List.replicate, List.cons_append, List.nil_append])
  repeat' (first
 | ((with_reducible refine hK _ _ ?_); clear hK K)
 | ((with_reducible refine hK _ ?_); clear hK K; try simp only [])
 | ((with_reducible refine hK _ _ ?_ ?_); (first | exact Or.inl rfl | exact Or.inr (by (first | exact ⟨_, rfl⟩ | exact ⟨_, by rw [List.append_assoc]; rfl⟩ | exact ⟨_, by simp only [List.append_assoc, List.cons_append, List.nil_append]; rfl⟩ | exact ⟨_, by rw [hp_setj, List.append_assoc]; rfl⟩ | exact ⟨_, hp_setj _ _ _ _⟩ | exact ⟨[], (List.append_nil _).symm⟩))); clear hK K)
 | ((first | (with_reducible show AOp _ _ _ _ _ _ _) | (with_reducible show AQOp _ _ _ _ _ _ _)); simp (disch := first | ((with_reducible show liveO _ _ _ = true); first | assumption | (exact hS.lvB) | (exact hS.lvBA _) | (exact hS.lvA) | (exact hS.lvAA _) | (exact hq.live) | (exact hq.liveA _) | (exact hS.bSl _ _) | (exact liveO_setS (by assumption)) | (exact PtL.live (by assumption)) | (exact PtL.liveA (by assumption) _) | (simp only [go_sem]; done)) | omega | assumption | rfl | (simp only [go_sem]; first | done | omega)) only [go_sem, reduceIte, reduceCtorEq, Nat.reduceAdd, Nat.reduceMul, Nat.reduceSub, Nat.reduceLeDiff, Nat.lt_irrefl, Nat.reduceLT, Nat.reduceEqDiff, Nat.reduceBEq, Int.reduceLE, Int.reduceLT, Int.reduceToNat, w64, eq_self, hp.get, hp.getA, hll])
 | ((with_reducible refine AW_seqN [2] ?_ (fun K hK => ?_)); (exact rfl))
 | (with_reducible refine AW_region tyOk ?_)
 | ((with_reducible apply AW_treeN (id := 1) tyOk 11 [10]); (kernel_rfl); (exact rfl))
 | ((with_reducible refine AAnyN_leaf (by decide +kernel) ?_); (with_reducible exact Wk.refl))
 | (with_reducible refine AAnyN_quiet 0 rfl rfl (by decide +kernel) (by decide +kernel) (by decide +kernel) (by decide +kernel) (by (first | exact ⟨_, rfl⟩ | exact ⟨_, by rw [List.append_assoc]; rfl⟩ | exact ⟨_, by simp only [List.append_assoc, List.cons_append, List.nil_append]; rfl⟩ | exact ⟨_, by rw [hp_setj, List.append_assoc]; rfl⟩ | exact ⟨_, hp_setj _ _ _ _⟩ | exact ⟨[], (List.append_nil _).symm⟩)) (fun K hK => ?_))
 | (with_reducible refine AAnyN_quiet 1 rfl rfl (by decide +kernel) (by decide +kernel) (by decide +kernel) (by decide +kernel) (by (first | exact ⟨_, rfl⟩ | exact ⟨_, by rw [List.append_assoc]; rfl⟩ | exact ⟨_, by simp only [List.append_assoc, List.cons_append, List.nil_append]; rfl⟩ | exact ⟨_, by rw [hp_setj, List.append_assoc]; rfl⟩ | exact ⟨_, hp_setj _ _ _ _⟩ | exact ⟨[], (List.append_nil _).symm⟩)) (fun K hK => ?_))
 | (with_reducible refine AAnyN_quiet 2 rfl rfl (by decide +kernel) (by decide +kernel) (by decide +kernel) (by decide +kernel) (by (first | exact ⟨_, rfl⟩ | exact ⟨_, by rw [List.append_assoc]; rfl⟩ | exact ⟨_, by simp only [List.append_assoc, List.cons_append, List.nil_append]; rfl⟩ | exact ⟨_, by rw [hp_setj, List.append_assoc]; rfl⟩ | exact ⟨_, hp_setj _ _ _ _⟩ | exact ⟨[], (List.append_nil _).symm⟩)) (fun K hK => ?_))
 | (with_reducible refine AAnyN_quiet 3 rfl rfl (by decide +kernel) (by decide +kernel) (by decide +kernel) (by decide +kernel) (by (first | exact ⟨_, rfl⟩ | exact ⟨_, by rw [List.append_assoc]; rfl⟩ | exact ⟨_, by simp only [List.append_assoc, List.cons_append, List.nil_append]; rfl⟩ | exact ⟨_, by rw [hp_setj, List.append_assoc]; rfl⟩ | exact ⟨_, hp_setj _ _ _ _⟩ | exact ⟨[], (List.append_nil _).symm⟩)) (fun K hK => ?_))
 | (with_reducible refine AAnyN_quiet 4 rfl rfl (by decide +kernel) (by decide +kernel) (by decide +kernel) (by decide +kernel) (by (first | exact ⟨_, rfl⟩ | exact ⟨_, by rw [List.append_assoc]; rfl⟩ | exact ⟨_, by simp only [List.append_assoc, List.cons_append, List.nil_append]; rfl⟩ | exact ⟨_, by rw [hp_setj, List.append_assoc]; rfl⟩ | exact ⟨_, hp_setj _ _ _ _⟩ | exact ⟨[], (List.append_nil _).symm⟩)) (fun K hK => ?_))
 | (with_reducible refine AAnyN_quiet 5 rfl rfl (by decide +kernel) (by decide +kernel) (by decide +kernel) (by decide +kernel) (by (first | exact ⟨_, rfl⟩ | exact ⟨_, by rw [List.append_assoc]; rfl⟩ | exact ⟨_, by simp only [List.append_assoc, List.cons_append, List.nil_append]; rfl⟩ | exact ⟨_, by rw [hp_setj, List.append_assoc]; rfl⟩ | exact ⟨_, hp_setj _ _ _ _⟩ | exact ⟨[], (List.append_nil _).symm⟩)) (fun K hK => ?_))
 | (with_reducible refine AAnyN_quiet 6 rfl rfl (by decide +kernel) (by decide +kernel) (by decide +kernel) (by decide +kernel) (by (first | exact ⟨_, rfl⟩ | exact ⟨_, by rw [List.append_assoc]; rfl⟩ | exact ⟨_, by simp only [List.append_assoc, List.cons_append, List.nil_append]; rfl⟩ | exact ⟨_, by rw [hp_setj, List.append_assoc]; rfl⟩ | exact ⟨_, hp_setj _ _ _ _⟩ | exact ⟨[], (List.append_nil _).symm⟩)) (fun K hK => ?_))
 | (with_reducible refine AAnyN_quiet 7 rfl rfl (by decide +kernel) (by decide +kernel) (by decide +kernel) (by decide +kernel) (by (first | exact ⟨_, rfl⟩ | exact ⟨_, by rw [List.append_assoc]; rfl⟩ | exact ⟨_, by simp only [List.append_assoc, List.cons_append, List.nil_append]; rfl⟩ | exact ⟨_, by rw [hp_setj, List.append_assoc]; rfl⟩ | exact ⟨_, hp_setj _ _ _ _⟩ | exact ⟨[], (List.append_nil _).symm⟩)) (fun K hK => ?_))
 | (with_reducible refine AAnyN_step 8 [9] (by decide +kernel) ?_)
 | (with_reducible refine AAnyN_step 8 [] (by decide +kernel) ?_)
 | (with_reducible refine AAnyN_step 9 [] (by decide +kernel) ?_)
 | (with_reducible refine AAnyN_step 10 [] (by decide +kernel) ?_)
 | (with_reducible refine AAllN_cons rfl (fun K hK => ?_) ?_)
 | (with_reducible exact AAllN_nil)
 | ((with_reducible show thenA _ _ _ _ _); simp only [thenA, blockA, if_true, if_false, reduceIte])
 | ((with_reducible show blockA _ _ _ _ _); simp only [thenA, blockA, if_true, if_false, reduceIte, Nat.reduceEqDiff, reduceCtorEq])
 | (with_reducible refine AOps_cons (fun K hK => ?_))
 | (with_reducible refine AQOps_cons (fun K hK => ?_))
 | ((with_reducible refine AQOps_nil ?_); try simp only [thenA, blockA, if_true, if_false, reduceIte, Nat.reduceEqDiff, reduceCtorEq])
 | ((with_reducible refine AOps_nil ?_); try simp only [thenA, blockA, if_true, if_false, reduceIte, Nat.reduceEqDiff, reduceCtorEq])
 | (with_reducible refine AW_block ?_)
 | ((first | (with_reducible refine AW_ret ?_) | (with_reducible refine AW_skip ?_) | (with_reducible refine AW_exit ?_)); try simp only [thenA, blockA, if_true, if_false, reduceIte, Nat.reduceEqDiff, reduceCtorEq])
 | ((with_reducible show AW _ _ (.cond _ _ _) _ _ _); refine AW_cond rfl (fun hg => ?_) (fun hg => ?_) <;> first | (exfalso; simp only [reduceCtorEq] at hg; done) | ((try simp only [Bool.not_eq_true', Bool.not_eq_false', decide_eq_true_eq, decide_eq_false_iff_not] at hg); try (exfalso; omega)))
 | ((with_reducible show _ ∧ _); refine And.intro (fun hg => ?_) (fun hg => ?_) <;> (try simp only [Bool.not_eq_true', Bool.not_eq_false'] at hg) <;> simp only [hg] <;> (try simp only [decide_eq_true_eq, decide_eq_false_iff_not] at hg) <;> (try (exfalso; omega)))
 | (clear hK K)
    | fail)
  repeat' (first
 | ((with_reducible refine hK _ _ ?_); clear hK K)
 | ((first | (with_reducible show AOp _ _ _ _ _ _ _)); simp (disch := first | ((with_reducible show liveO _ _ _ = true); first | assumption | (exact hS.lvB) | (exact hS.lvBA _) | (exact hS.lvA) | (exact hS.lvAA _) | (exact hq.live) | (exact hq.liveA _) | (exact hS.bSl _ _) | (exact liveO_setS (by assumption)) | (exact PtL.live (by assumption)) | (exact PtL.liveA (by assumption) _) | (simp only [go_sem]; done)) | omega | assumption | rfl | (simp only [go_sem]; first | done | omega)) only [go_sem, reduceIte, reduceCtorEq, Nat.reduceAdd, Nat.reduceMul, Nat.reduceSub, Nat.reduceLeDiff, Nat.lt_irrefl, Nat.reduceLT, Nat.reduceEqDiff, Nat.reduceBEq, Int.reduceLE, Int.reduceLT, Int.reduceToNat, w64, eq_self, hp.get, hp.getA, hll])
 | (with_reducible refine AW_seq (fun K hK => ?_))
 | (with_reducible refine AW_region tyOk ?_)
 | (with_reducible refine AOps_cons (fun K hK => ?_))
 | ((with_reducible refine AOps_nil ?_); try simp only [thenA, blockA, if_true, if_false, reduceIte, Nat.reduceEqDiff, reduceCtorEq])
 | (with_reducible refine AW_block ?_)
 | ((first | (with_reducible refine AW_ret ?_) | (with_reducible refine AW_skip ?_) | (with_reducible refine AW_exit ?_)); try simp only [thenA, blockA, if_true, if_false, reduceIte, Nat.reduceEqDiff, reduceCtorEq])
 | ((with_reducible show AW _ _ (.cond _ _ _) _ _ _); refine AW_cond rfl (fun hg => ?_) (fun hg => ?_) <;> first | (exfalso; simp only [reduceCtorEq] at hg; done) | ((try simp only [Bool.not_eq_true', Bool.not_eq_false', decide_eq_true_eq, decide_eq_false_iff_not] at hg); try (exfalso; omega)))
 | ((with_reducible show _ ∧ _); refine And.intro (fun hg => ?_) (fun hg => ?_) <;> (try simp only [Bool.not_eq_true', Bool.not_eq_false'] at hg) <;> simp only [hg] <;> (try simp only [decide_eq_true_eq, decide_eq_false_iff_not] at hg) <;> (try (exfalso; omega)))
 | (clear hK K)
    | fail)
  refine AW.weak (Wk.virtC (o := ⟨0, false, 27, 3, [.int .i64 r, .int .i64 s, .nils]⟩) (H.length + 1) 2 41 1 ((hp_getj _ _ _).trans rfl) rfl) ?_
  have hS0 : SO H (H ++ [rsL, bxL r s (H.length + 2) 0 0] ++ [(⟨0, false, 41, 1, []⟩ : AO)]) H.length r s (H.length + 2) 0 [] := by
    refine ⟨⟨⟨_, List.append_assoc ..⟩, ?_, by omega, fun k hk => absurd hk (Nat.not_lt_zero _), fun i k hi => absurd hi (Nat.not_lt_zero _)⟩, ?_, ?_, Nat.le_refl _, ⟨by omega, by omega⟩, fun k hk => absurd hk (Nat.not_lt_zero _)⟩
    · rw [List.append_assoc, hp_getj]; rfl
    · rw [List.append_assoc, hp_getj]; rfl
    · rw [List.append_assoc, hp_get0]; rfl
  refine AW_loopV [4, 19, 20, 21, 22, 23, 24, 25, 26, 27, 28, 29, 30, 31, 32, 33, 34, 35, 36] (fun p : Nat × Hp => [(19, .int .i64 (p.1 : Nat))]) (fun p => p.2) (fun p => p.1 ≤ ls.length ∧ ∃ Z A v' P, SO H Z H.length r s A v' P ∧ wR P = ls.take p.1 ∧ ∀ tm, Wk H tm p.2 tm Z) (fun p => ls.length - p.1) (0, _)
    ⟨Nat.zero_le _, _, _, _, _, hS0, rfl, fun _ => Wk.refl⟩ ?_ ?_ ?_
  · simp only [junkAll, setAll, List.foldl_cons, List.foldl_nil, List.set_cons_succ, List.set_cons_zero, JL, true_or, or_true, and_true, true_and, reduceCtorEq, false_or, or_false, LV.int.injEq, LV.bool.injEq, LV.flt.injEq, LV.sl.injEq, LV.ptr.injEq, eq_self, Int.natCast_add, Int.natCast_one, Int.natCast_zero, Int.ofNat_zero]
  · simp [hp_setj, rsL, bxL]
  clear hS0
  intro ⟨k, Za⟩ ⟨hk, Z, A, v', P, hS, hW, hwk⟩ K hK
  simp only at hk hW hwk
  refine AW.weak (hwk _) ?_
  clear hwk
  have hPl : P.length = k := by rw [← wR_len P, hW, List.length_take]; omega
  obtain ⟨KZ, hKZ⟩ := hS.ls.pre
  have hq : PtL Z id ver [.int .i64 r, .int .i64 s, v] := by rw [hKZ]; exact hp.app _
  have hz : RdL Z v L := by rw [hKZ]; exact h.app _
  have hzL : RdLL Z L (ls.map fun ws => ws.map some) := by rw [hKZ]; exact hL.app _
  clear hKZ KZ
  simp only [junkAll, setAll, List.foldl_cons, List.foldl_nil, List.set_cons_succ, List.set_cons_zero]
  by_cases hkl : k < ls.length
  · have hr := hzL.at (k := k) (by rw [List.length_map]; exact hkl)
    rw [ix_mapA _ hkl, Fw_map] at hr
    obtain ⟨ws, hws⟩ : ∃ ws, ix ls k = ws := ⟨_, rfl⟩
    rw [hws] at hr
    have hwl : ws.length ≤ 1048576 := by
      have := totW_at hkl
      rw [hws] at this; omega
    have hrl : lenOf (ix L k) = some ws.length := by rw [hr.len, List.length_map]
    have hrc := fun X => (hr.app X).cells
    have hrc0 := hr.cells
    have hra : (ws.map Fw).all LV.isCell = true := by rw [List.all_eq_true]; intro x hx; obtain ⟨y, _, rfl⟩ := List.mem_map.1 hx; rfl
    have oA : ∀ L : Hp, (Z ++ L)[A]? = some ⟨v', false, 41, 1, P.map cR⟩ := at_app hS.ls.out
    have hcl2 : (P.map cR).length = P.length := List.length_map ..
    have hcc := cR_cells P
    have hPn : P.length ≤ 1048576 := by omega
    by_cases hw0 : ws.length = 0
    · repeat' (first
 | ((with_reducible refine hK _ _ ?_); clear hK K)
 | ((with_reducible refine hK _ ?_); clear hK K; try simp only [])
 | ((with_reducible refine hK _ _ ?_ ?_); (first | exact Or.inl rfl | exact Or.inr (by (first | exact ⟨_, rfl⟩ | exact ⟨_, by rw [List.append_assoc]; rfl⟩ | exact ⟨_, by simp only [List.append_assoc, List.cons_append, List.nil_append]; rfl⟩ | exact ⟨_, by rw [hp_setj, List.append_assoc]; rfl⟩ | exact ⟨_, hp_setj _ _ _ _⟩ | exact ⟨[], (List.append_nil _).symm⟩))); clear hK K)
 | ((first | (with_reducible show AOp _ _ _ _ _ _ _) | (with_reducible show AQOp _ _ _ _ _ _ _)); simp (disch := first | ((with_reducible show liveO _ _ _ = true); first | assumption | (exact hS.lvB) | (exact hS.lvBA _) | (exact hS.lvA) | (exact hS.lvAA _) | (exact hq.live) | (exact hq.liveA _) | (exact hS.bSl _ _) | (exact liveO_setS (by assumption)) | (exact PtL.live (by assumption)) | (exact PtL.liveA (by assumption) _) | (simp only [go_sem]; done)) | omega | assumption | rfl | (simp only [go_sem]; first | done | omega)) only [go_sem, reduceIte, reduceCtorEq, Nat.reduceAdd, Nat.reduceMul, Nat.reduceSub, Nat.reduceLeDiff, Nat.lt_irrefl, Nat.reduceLT, Nat.reduceEqDiff, Nat.reduceBEq, Int.reduceLE, Int.reduceLT, Int.reduceToNat, w64, eq_self, hq.get, hq.getA, hll, hz.idx, hz.ldx, hz.idxA, hz.ldxA, hS.gB, hS.gBA, hS.bSp, hrl, hrc, hrc0, hra, hw0, oA, hcl2, hcc])
 | (with_reducible refine AW_seq (fun K hK => ?_))
 | (with_reducible refine AW_region tyOk ?_)
 | ((with_reducible apply AW_treeN (id := 5) tyOk 15 [12, 13, 14]); (kernel_rfl); (exact rfl))
 | ((with_reducible refine AAnyN_leaf (by decide +kernel) ?_); (with_reducible exact Wk.refl))
 | (with_reducible refine AAnyN_quiet 0 rfl rfl (by decide +kernel) (by decide +kernel) (by decide +kernel) (by decide +kernel) (by (first | exact ⟨_, rfl⟩ | exact ⟨_, by rw [List.append_assoc]; rfl⟩ | exact ⟨_, by simp only [List.append_assoc, List.cons_append, List.nil_append]; rfl⟩ | exact ⟨_, by rw [hp_setj, List.append_assoc]; rfl⟩ | exact ⟨_, hp_setj _ _ _ _⟩ | exact ⟨[], (List.append_nil _).symm⟩)) (fun K hK => ?_))
 | (with_reducible refine AAnyN_quiet 1 rfl rfl (by decide +kernel) (by decide +kernel) (by decide +kernel) (by decide +kernel) (by (first | exact ⟨_, rfl⟩ | exact ⟨_, by rw [List.append_assoc]; rfl⟩ | exact ⟨_, by simp only [List.append_assoc, List.cons_append, List.nil_append]; rfl⟩ | exact ⟨_, by rw [hp_setj, List.append_assoc]; rfl⟩ | exact ⟨_, hp_setj _ _ _ _⟩ | exact ⟨[], (List.append_nil _).symm⟩)) (fun K hK => ?_))
 | ((with_reducible refine AAnyN_bs 2 rfl (by decide +kernel) (by decide +kernel) (by decide +kernel) (by decide +kernel) (by decide +kernel) (by (first | exact ⟨_, rfl⟩ | exact ⟨_, by rw [List.append_assoc]; rfl⟩ | exact ⟨_, by simp only [List.append_assoc, List.cons_append, List.nil_append]; rfl⟩ | exact ⟨_, by rw [hp_setj, List.append_assoc]; rfl⟩ | exact ⟨_, hp_setj _ _ _ _⟩ | exact ⟨[], (List.append_nil _).symm⟩)) ?_); simp only [putA, List.set_cons_succ, List.set_cons_zero])
 | (with_reducible refine AAnyN_quiet 3 rfl rfl (by decide +kernel) (by decide +kernel) (by decide +kernel) (by decide +kernel) (by (first | exact ⟨_, rfl⟩ | exact ⟨_, by rw [List.append_assoc]; rfl⟩ | exact ⟨_, by simp only [List.append_assoc, List.cons_append, List.nil_append]; rfl⟩ | exact ⟨_, by rw [hp_setj, List.append_assoc]; rfl⟩ | exact ⟨_, hp_setj _ _ _ _⟩ | exact ⟨[], (List.append_nil _).symm⟩)) (fun K hK => ?_))
 | (with_reducible refine AAnyN_quiet 4 rfl rfl (by decide +kernel) (by decide +kernel) (by decide +kernel) (by decide +kernel) (by (first | exact ⟨_, rfl⟩ | exact ⟨_, by rw [List.append_assoc]; rfl⟩ | exact ⟨_, by simp only [List.append_assoc, List.cons_append, List.nil_append]; rfl⟩ | exact ⟨_, by rw [hp_setj, List.append_assoc]; rfl⟩ | exact ⟨_, hp_setj _ _ _ _⟩ | exact ⟨[], (List.append_nil _).symm⟩)) (fun K hK => ?_))
 | (with_reducible refine AAnyN_quiet 5 rfl rfl (by decide +kernel) (by decide +kernel) (by decide +kernel) (by decide +kernel) (by (first | exact ⟨_, rfl⟩ | exact ⟨_, by rw [List.append_assoc]; rfl⟩ | exact ⟨_, by simp only [List.append_assoc, List.cons_append, List.nil_append]; rfl⟩ | exact ⟨_, by rw [hp_setj, List.append_assoc]; rfl⟩ | exact ⟨_, hp_setj _ _ _ _⟩ | exact ⟨[], (List.append_nil _).symm⟩)) (fun K hK => ?_))
 | (with_reducible refine AAnyN_quiet 6 rfl rfl (by decide +kernel) (by decide +kernel) (by decide +kernel) (by decide +kernel) (by (first | exact ⟨_, rfl⟩ | exact ⟨_, by rw [List.append_assoc]; rfl⟩ | exact ⟨_, by simp only [List.append_assoc, List.cons_append, List.nil_append]; rfl⟩ | exact ⟨_, by rw [hp_setj, List.append_assoc]; rfl⟩ | exact ⟨_, hp_setj _ _ _ _⟩ | exact ⟨[], (List.append_nil _).symm⟩)) (fun K hK => ?_))
 | (with_reducible refine AAnyN_quiet 7 rfl rfl (by decide +kernel) (by decide +kernel) (by decide +kernel) (by decide +kernel) (by (first | exact ⟨_, rfl⟩ | exact ⟨_, by rw [List.append_assoc]; rfl⟩ | exact ⟨_, by simp only [List.append_assoc, List.cons_append, List.nil_append]; rfl⟩ | exact ⟨_, by rw [hp_setj, List.append_assoc]; rfl⟩ | exact ⟨_, hp_setj _ _ _ _⟩ | exact ⟨[], (List.append_nil _).symm⟩)) (fun K hK => ?_))
 | (with_reducible refine AAnyN_quiet 8 rfl rfl (by decide +kernel) (by decide +kernel) (by decide +kernel) (by decide +kernel) (by (first | exact ⟨_, rfl⟩ | exact ⟨_, by rw [List.append_assoc]; rfl⟩ | exact ⟨_, by simp only [List.append_assoc, List.cons_append, List.nil_append]; rfl⟩ | exact ⟨_, by rw [hp_setj, List.append_assoc]; rfl⟩ | exact ⟨_, hp_setj _ _ _ _⟩ | exact ⟨[], (List.append_nil _).symm⟩)) (fun K hK => ?_))
 | (with_reducible refine AAnyN_quiet 9 rfl rfl (by decide +kernel) (by decide +kernel) (by decide +kernel) (by decide +kernel) (by (first | exact ⟨_, rfl⟩ | exact ⟨_, by rw [List.append_assoc]; rfl⟩ | exact ⟨_, by simp only [List.append_assoc, List.cons_append, List.nil_append]; rfl⟩ | exact ⟨_, by rw [hp_setj, List.append_assoc]; rfl⟩ | exact ⟨_, hp_setj _ _ _ _⟩ | exact ⟨[], (List.append_nil _).symm⟩)) (fun K hK => ?_))
 | (with_reducible refine AAnyN_step 10 [] (by decide +kernel) ?_)
 | (with_reducible refine AAnyN_step 11 [] (by decide +kernel) ?_)
 | (with_reducible refine AAnyN_step 12 [] (by decide +kernel) ?_)
 | (with_reducible refine AAnyN_step 13 [] (by decide +kernel) ?_)
 | (with_reducible refine AAnyN_step 14 [] (by decide +kernel) ?_)
 | (with_reducible refine AAllN_cons rfl (fun K hK => ?_) ?_)
 | (with_reducible exact AAllN_nil)
 | ((with_reducible show thenA _ _ _ _ _); simp only [thenA, blockA, if_true, if_false, reduceIte])
 | ((with_reducible show blockA _ _ _ _ _); simp only [thenA, blockA, if_true, if_false, reduceIte, Nat.reduceEqDiff, reduceCtorEq])
 | (with_reducible refine AOps_cons (fun K hK => ?_))
 | (with_reducible refine AQOps_cons (fun K hK => ?_))
 | ((with_reducible refine AQOps_nil ?_); try simp only [thenA, blockA, if_true, if_false, reduceIte, Nat.reduceEqDiff, reduceCtorEq])
 | ((with_reducible refine AOps_nil ?_); try simp only [thenA, blockA, if_true, if_false, reduceIte, Nat.reduceEqDiff, reduceCtorEq])
 | (with_reducible refine AW_block ?_)
 | ((first | (with_reducible refine AW_ret ?_) | (with_reducible refine AW_skip ?_) | (with_reducible refine AW_exit ?_)); try simp only [thenA, blockA, if_true, if_false, reduceIte, Nat.reduceEqDiff, reduceCtorEq])
 | ((with_reducible show AW _ _ (.cond _ _ _) _ _ _); refine AW_cond rfl (fun hg => ?_) (fun hg => ?_) <;> first | (exfalso; simp only [reduceCtorEq] at hg; done) | ((try simp only [Bool.not_eq_true', Bool.not_eq_false', decide_eq_true_eq, decide_eq_false_iff_not] at hg); try (exfalso; omega)))
 | ((with_reducible show _ ∧ _); refine And.intro (fun hg => ?_) (fun hg => ?_) <;> (try simp only [Bool.not_eq_true', Bool.not_eq_false'] at hg) <;> simp only [hg] <;> (try simp only [decide_eq_true_eq, decide_eq_false_iff_not] at hg) <;> (try (exfalso; omega)))
 | (clear hK K)
        | fail)
      have hwe : ws = [] := List.eq_nil_of_length_eq_zero hw0
      have hS4 := hS.addN [⟨0, false, 41, 1, [.nils]⟩, ⟨0, false, 25, 1, []⟩] 1 [] rfl
      refine hK _ _ (k + 1, _) ⟨by simp only; omega, _, _, _, _, hS4, ?_, fun tm => grownW hS.ls.ltA hS.ltB hS.nA.2 _ _⟩ (by simp only; omega) ?_ rfl
      · show List.map _ (P ++ [_]) = _
        rw [List.map_append]
        show wR P ++ [[]] = _
        rw [hW, take_ix _ _ hkl, hws, hwe]
      · simp only [junkAll, setAll, List.foldl_cons, List.foldl_nil, List.set_cons_succ, List.set_cons_zero, JL, true_or, or_true, and_true, true_and, reduceCtorEq, false_or, or_false, LV.int.injEq, LV.bool.injEq, LV.flt.injEq, LV.sl.injEq, LV.ptr.injEq, eq_self, Int.natCast_add, Int.natCast_one, Int.natCast_zero, Int.ofNat_zero]
    · have hc1 : ws.length * 4 ≤ 140737488355328 := by omega
      have hc2 : ws.length ≤ 17592186044416 := by omega
      repeat' (first
 | ((with_reducible refine hK _ _ ?_); clear hK K)
 | ((with_reducible refine hK _ ?_); clear hK K; try simp only [])
 | ((with_reducible refine hK _ _ ?_ ?_); (first | exact Or.inl rfl | exact Or.inr (by (first | exact ⟨_, rfl⟩ | exact ⟨_, by rw [List.append_assoc]; rfl⟩ | exact ⟨_, by simp only [List.append_assoc, List.cons_append, List.nil_append]; rfl⟩ | exact ⟨_, by rw [hp_setj, List.append_assoc]; rfl⟩ | exact ⟨_, hp_setj _ _ _ _⟩ | exact ⟨[], (List.append_nil _).symm⟩))); clear hK K)
 | ((first | (with_reducible show AOp _ _ _ _ _ _ _) | (with_reducible show AQOp _ _ _ _ _ _ _)); simp (disch := first | ((with_reducible show liveO _ _ _ = true); first | assumption | (exact hS.lvB) | (exact hS.lvBA _) | (exact hS.lvA) | (exact hS.lvAA _) | (exact hq.live) | (exact hq.liveA _) | (exact hS.bSl _ _) | (exact liveO_setS (by assumption)) | (exact PtL.live (by assumption)) | (exact PtL.liveA (by assumption) _) | (simp only [go_sem]; done)) | omega | assumption | rfl | (simp only [go_sem]; first | done | omega)) only [go_sem, reduceIte, reduceCtorEq, Nat.reduceAdd, Nat.reduceMul, Nat.reduceSub, Nat.reduceLeDiff, Nat.lt_irrefl, Nat.reduceLT, Nat.reduceEqDiff, Nat.reduceBEq, Int.reduceLE, Int.reduceLT, Int.reduceToNat, w64, eq_self, hq.get, hq.getA, hll, hz.idx, hz.ldx, hz.idxA, hz.ldxA, hS.gB, hS.gBA, hS.bSp, hrl, hrc, hrc0, hra, hw0, hc1, hc2, oA, hcl2, hcc])
 | (with_reducible refine AW_seq (fun K hK => ?_))
 | (with_reducible refine AW_region tyOk ?_)
 | ((with_reducible apply AW_treeN (id := 5) tyOk 15 [12, 13, 14]); (kernel_rfl); (exact rfl))
 | ((with_reducible refine AAnyN_leaf (by decide +kernel) ?_); (with_reducible exact Wk.refl))
 | (with_reducible refine AAnyN_quiet 0 rfl rfl (by decide +kernel) (by decide +kernel) (by decide +kernel) (by decide +kernel) (by (first | exact ⟨_, rfl⟩ | exact ⟨_, by rw [List.append_assoc]; rfl⟩ | exact ⟨_, by simp only [List.append_assoc, List.cons_append, List.nil_append]; rfl⟩ | exact ⟨_, by rw [hp_setj, List.append_assoc]; rfl⟩ | exact ⟨_, hp_setj _ _ _ _⟩ | exact ⟨[], (List.append_nil _).symm⟩)) (fun K hK => ?_))
 | (with_reducible refine AAnyN_quiet 1 rfl rfl (by decide +kernel) (by decide +kernel) (by decide +kernel) (by decide +kernel) (by (first | exact ⟨_, rfl⟩ | exact ⟨_, by rw [List.append_assoc]; rfl⟩ | exact ⟨_, by simp only [List.append_assoc, List.cons_append, List.nil_append]; rfl⟩ | exact ⟨_, by rw [hp_setj, List.append_assoc]; rfl⟩ | exact ⟨_, hp_setj _ _ _ _⟩ | exact ⟨[], (List.append_nil _).symm⟩)) (fun K hK => ?_))
 | ((with_reducible refine AAnyN_bs 2 rfl (by decide +kernel) (by decide +kernel) (by decide +kernel) (by decide +kernel) (by decide +kernel) (by (first | exact ⟨_, rfl⟩ | exact ⟨_, by rw [List.append_assoc]; rfl⟩ | exact ⟨_, by simp only [List.append_assoc, List.cons_append, List.nil_append]; rfl⟩ | exact ⟨_, by rw [hp_setj, List.append_assoc]; rfl⟩ | exact ⟨_, hp_setj _ _ _ _⟩ | exact ⟨[], (List.append_nil _).symm⟩)) ?_); simp only [putA, List.set_cons_succ, List.set_cons_zero])
 | (with_reducible refine AAnyN_quiet 3 rfl rfl (by decide +kernel) (by decide +kernel) (by decide +kernel) (by decide +kernel) (by (first | exact ⟨_, rfl⟩ | exact ⟨_, by rw [List.append_assoc]; rfl⟩ | exact ⟨_, by simp only [List.append_assoc, List.cons_append, List.nil_append]; rfl⟩ | exact ⟨_, by rw [hp_setj, List.append_assoc]; rfl⟩ | exact ⟨_, hp_setj _ _ _ _⟩ | exact ⟨[], (List.append_nil _).symm⟩)) (fun K hK => ?_))
 | (with_reducible refine AAnyN_quiet 4 rfl rfl (by decide +kernel) (by decide +kernel) (by decide +kernel) (by decide +kernel) (by (first | exact ⟨_, rfl⟩ | exact ⟨_, by rw [List.append_assoc]; rfl⟩ | exact ⟨_, by simp only [List.append_assoc, List.cons_append, List.nil_append]; rfl⟩ | exact ⟨_, by rw [hp_setj, List.append_assoc]; rfl⟩ | exact ⟨_, hp_setj _ _ _ _⟩ | exact ⟨[], (List.append_nil _).symm⟩)) (fun K hK => ?_))
 | (with_reducible refine AAnyN_quiet 5 rfl rfl (by decide +kernel) (by decide +kernel) (by decide +kernel) (by decide +kernel) (by (first | exact ⟨_, rfl⟩ | exact ⟨_, by rw [List.append_assoc]; rfl⟩ | exact ⟨_, by simp only [List.append_assoc, List.cons_append, List.nil_append]; rfl⟩ | exact ⟨_, by rw [hp_setj, List.append_assoc]; rfl⟩ | exact ⟨_, hp_setj _ _ _ _⟩ | exact ⟨[], (List.append_nil _).symm⟩)) (fun K hK => ?_))
 | (with_reducible refine AAnyN_quiet 6 rfl rfl (by decide +kernel) (by decide +kernel) (by decide +kernel) (by decide +kernel) (by (first | exact ⟨_, rfl⟩ | exact ⟨_, by rw [List.append_assoc]; rfl⟩ | exact ⟨_, by simp only [List.append_assoc, List.cons_append, List.nil_append]; rfl⟩ | exact ⟨_, by rw [hp_setj, List.append_assoc]; rfl⟩ | exact ⟨_, hp_setj _ _ _ _⟩ | exact ⟨[], (List.append_nil _).symm⟩)) (fun K hK => ?_))
 | (with_reducible refine AAnyN_quiet 7 rfl rfl (by decide +kernel) (by decide +kernel) (by decide +kernel) (by decide +kernel) (by (first | exact ⟨_, rfl⟩ | exact ⟨_, by rw [List.append_assoc]; rfl⟩ | exact ⟨_, by simp only [List.append_assoc, List.cons_append, List.nil_append]; rfl⟩ | exact ⟨_, by rw [hp_setj, List.append_assoc]; rfl⟩ | exact ⟨_, hp_setj _ _ _ _⟩ | exact ⟨[], (List.append_nil _).symm⟩)) (fun K hK => ?_))
 | (with_reducible refine AAnyN_quiet 8 rfl rfl (by decide +kernel) (by decide +kernel) (by decide +kernel) (by decide +kernel) (by (first | exact ⟨_, rfl⟩ | exact ⟨_, by rw [List.append_assoc]; rfl⟩ | exact ⟨_, by simp only [List.append_assoc, List.cons_append, List.nil_append]; rfl⟩ | exact ⟨_, by rw [hp_setj, List.append_assoc]; rfl⟩ | exact ⟨_, hp_setj _ _ _ _⟩ | exact ⟨[], (List.append_nil _).symm⟩)) (fun K hK => ?_))
 | (with_reducible refine AAnyN_quiet 9 rfl rfl (by decide +kernel) (by decide +kernel) (by decide +kernel) (by decide +kernel) (by (first | exact ⟨_, rfl⟩ | exact ⟨_, by rw [List.append_assoc]; rfl⟩ | exact ⟨_, by simp only [List.append_assoc, List.cons_append, List.nil_append]; rfl⟩ | exact ⟨_, by rw [hp_setj, List.append_assoc]; rfl⟩ | exact ⟨_, hp_setj _ _ _ _⟩ | exact ⟨[], (List.append_nil _).symm⟩)) (fun K hK => ?_))
 | (with_reducible refine AAnyN_step 10 [] (by decide +kernel) ?_)
 | (with_reducible refine AAnyN_step 11 [] (by decide +kernel) ?_)
 | (with_reducible refine AAnyN_step 12 [] (by decide +kernel) ?_)
 | (with_reducible refine AAnyN_step 13 [] (by decide +kernel) ?_)
 | (with_reducible refine AAnyN_step 14 [] (by decide +kernel) ?_)
 | (with_reducible refine AAllN_cons rfl (fun K hK => ?_) ?_)
 | (with_reducible exact AAllN_nil)
 | ((with_reducible show thenA _ _ _ _ _); simp only [thenA, blockA, if_true, if_false, reduceIte])
 | ((with_reducible show blockA _ _ _ _ _); simp only [thenA, blockA, if_true, if_false, reduceIte, Nat.reduceEqDiff, reduceCtorEq])
 | (with_reducible refine AOps_cons (fun K hK => ?_))
 | (with_reducible refine AQOps_cons (fun K hK => ?_))
 | ((with_reducible refine AQOps_nil ?_); try simp only [thenA, blockA, if_true, if_false, reduceIte, Nat.reduceEqDiff, reduceCtorEq])
 | ((with_reducible refine AOps_nil ?_); try simp only [thenA, blockA, if_true, if_false, reduceIte, Nat.reduceEqDiff, reduceCtorEq])
 | (with_reducible refine AW_block ?_)
 | ((first | (with_reducible refine AW_ret ?_) | (with_reducible refine AW_skip ?_) | (with_reducible refine AW_exit ?_)); try simp only [thenA, blockA, if_true, if_false, reduceIte, Nat.reduceEqDiff, reduceCtorEq])
 | ((with_reducible show AW _ _ (.cond _ _ _) _ _ _); refine AW_cond rfl (fun hg => ?_) (fun hg => ?_) <;> first | (exfalso; simp only [reduceCtorEq] at hg; done) | ((try simp only [Bool.not_eq_true', Bool.not_eq_false', decide_eq_true_eq, decide_eq_false_iff_not] at hg); try (exfalso; omega)))
 | ((with_reducible show _ ∧ _); refine And.intro (fun hg => ?_) (fun hg => ?_) <;> (try simp only [Bool.not_eq_true', Bool.not_eq_false'] at hg) <;> simp only [hg] <;> (try simp only [decide_eq_true_eq, decide_eq_false_iff_not] at hg) <;> (try (exfalso; omega)))
 | (clear hK K)
        | fail)
      have hS4 := hS.addN [⟨0, false, 25, 1, ws.map Fw⟩, ⟨0, false, 41, 1, [.sl Z.length 0 0 ws.length none]⟩] 0 ws rfl
      refine hK _ _ (k + 1, _) ⟨by simp only; omega, _, _, _, _, hS4, ?_, fun tm => Wk.refl⟩ (by simp only; omega) ?_ rfl
      · show List.map _ (P ++ [_]) = _
        rw [List.map_append]
        show wR P ++ [ws] = _
        rw [hW, take_ix _ _ hkl, hws]
      · simp only [junkAll, setAll, List.foldl_cons, List.foldl_nil, List.set_cons_succ, List.set_cons_zero, JL, true_or, or_true, and_true, true_and, reduceCtorEq, false_or, or_false, LV.int.injEq, LV.bool.injEq, LV.flt.injEq, LV.sl.injEq, LV.ptr.injEq, eq_self, Int.natCast_add, Int.natCast_one, Int.natCast_zero, Int.ofNat_zero]
  · have hke : k = ls.length := by omega
    rw [hke, List.take_length] at hW
    have hbl := hS.ltB
    have gB3 : hgets Z (H.length + 1) 0 0 3 = some [.int .i64 r, .int .i64 s, .sl A v' 0 P.length none] := by have := hS.box; simp [hgets, this, bxL]
    have gR : ∀ (x y z : LV), hput Z H.length 0 0 [x, y, z] = some (Z.set H.length ⟨0, false, 27, 3, [x, y, z]⟩) := fun x y z => hputA_at hS.res (by simp)
    have gR3 : ∀ cs : List LV, cs.length = 3 → hgets (Z.set H.length ⟨0, false, 27, 3, cs⟩) H.length 0 0 3 = some cs := fun cs hc => by
      rw [hgets_setS (by omega) (by omega)]; simp [List.take_of_length_le (Nat.le_of_eq hc)]
    repeat' (first
 | ((with_reducible refine hK _ _ ?_); clear hK K)
 | ((first | (with_reducible show AOp _ _ _ _ _ _ _)); simp (disch := first | ((with_reducible show liveO _ _ _ = true); first | assumption | (exact hS.lvB) | (exact hS.lvBA _) | (exact hS.lvA) | (exact hS.lvAA _) | (exact hq.live) | (exact hq.liveA _) | (exact hS.bSl _ _) | (exact liveO_setS (by assumption)) | (exact PtL.live (by assumption)) | (exact PtL.liveA (by assumption) _) | (simp only [go_sem]; done)) | omega | assumption | rfl | (simp only [go_sem]; first | done | omega)) only [go_sem, reduceIte, reduceCtorEq, Nat.reduceAdd, Nat.reduceMul, Nat.reduceSub, Nat.reduceLeDiff, Nat.lt_irrefl, Nat.reduceLT, Nat.reduceEqDiff, Nat.reduceBEq, Int.reduceLE, Int.reduceLT, Int.reduceToNat, w64, eq_self, hll, gB3, gR])
 | (with_reducible refine AW_seq (fun K hK => ?_))
 | (with_reducible refine AW_region tyOk ?_)
 | (with_reducible refine AOps_cons (fun K hK => ?_))
 | ((with_reducible refine AOps_nil ?_); try simp only [thenA, blockA, if_true, if_false, reduceIte, Nat.reduceEqDiff, reduceCtorEq])
 | (with_reducible refine AW_block ?_)
 | ((first | (with_reducible refine AW_ret ?_) | (with_reducible refine AW_skip ?_) | (with_reducible refine AW_exit ?_)); try simp only [thenA, blockA, if_true, if_false, reduceIte, Nat.reduceEqDiff, reduceCtorEq])
 | ((with_reducible show AW _ _ (.cond _ _ _) _ _ _); refine AW_cond rfl (fun hg => ?_) (fun hg => ?_) <;> first | (exfalso; simp only [reduceCtorEq] at hg; done) | ((try simp only [Bool.not_eq_true', Bool.not_eq_false', decide_eq_true_eq, decide_eq_false_iff_not] at hg); try (exfalso; omega)))
 | ((with_reducible show _ ∧ _); refine And.intro (fun hg => ?_) (fun hg => ?_) <;> (try simp only [Bool.not_eq_true', Bool.not_eq_false'] at hg) <;> simp only [hg] <;> (try simp only [decide_eq_true_eq, decide_eq_false_iff_not] at hg) <;> (try (exfalso; omega)))
 | (clear hK K)
      | fail)
    refine EndA_same (by first | exact Or.inr rfl | exact Or.inl rfl) (by simp only [Try.results17, resA, aresL, gR3, go_sem] <;> rfl) ?_
    exact ⟨A, v', P, rfl, hW, hS.ls.setN _ (Nat.le_refl _) hS.nA.1 (fun k hk => (hS.nk k hk).1)⟩
end Go.Proofs.Ytonlgkecphijoaa
