/- The walk of the law FnFingers in the abstract machine. -/
import Derived.Test.YthcbbnigpkkkiaaJc
import Derived.Test.YthcbbnigpkkkiaaJd
import Derived.Test.YthcbbnigpkkkiaaQf
import Derived.Test.YthcbbnigpkkkiaaNu
import Derived.Test.YthcbbnigpkkkiaaNq
namespace Go.Proofs.Ythcbbnigpkkkiaa
open Go.RowKit
set_option linter.unusedSimpArgs false
set_option linter.unusedVariables false
set_option maxRecDepth 100000

/-- The keys, the cells' box, the cells, the keys that were put. -/
structure FS (H0 X : Hp) (ks : List Int) (s : Int) (A va v : Nat) (cs put : List Int) : Prop where
  pre : ∃ K, X = H0 ++ K
  kr : X[H0.length]? = some ⟨0, false, 2, 1, ks.map (LV.int .i64)⟩
  bx : X[H0.length + 2]? = some ⟨1, false, 28, 2, [.int .i64 s, .sl A va 0 64 none]⟩
  ce : X[A]? = some ⟨va, false, 2, 1, cs.map (LV.int .i64)⟩
  pu : X[H0.length + 3]? = some ⟨v, false, 2, 1, put.map (LV.int .i64)⟩
  nA : H0.length ≤ A ∧ A ≠ H0.length ∧ A ≠ H0.length + 2 ∧ A ≠ H0.length + 3
section
variable {H0 X : Hp} {ks cs put : List Int} {s : Int} {A va v : Nat}
theorem FS.app (h : FS H0 X ks s A va v cs put) (K : Hp) : FS H0 (X ++ K) ks s A va v cs put := by
  obtain ⟨⟨K0, e0⟩, h2, h3, h4, h5, h6⟩ := h
  exact ⟨⟨K0 ++ K, by rw [e0, List.append_assoc]⟩, at_appI h2 K, at_appI h3 K, at_appI h4 K, at_appI h5 K, h6⟩
theorem FS.setB (h : FS H0 X ks s A va v cs put) {A' va' : Nat} {cs' : List Int} (hc : X[A']? = some ⟨va', false, 2, 1, cs'.map (LV.int .i64)⟩) (hn : H0.length ≤ A' ∧ A' ≠ H0.length ∧ A' ≠ H0.length + 2 ∧ A' ≠ H0.length + 3) :
    FS H0 (X.set (H0.length + 2) ⟨1, false, 28, 2, [.int .i64 s, .sl A' va' 0 64 none]⟩) ks s A' va' v cs' put := by
  obtain ⟨h1, h2, h3, h4, h5, h6⟩ := h
  refine ⟨pre_setI h1 (by omega) _, ?_, ?_, ?_, ?_, hn⟩
  · rw [List.getElem?_set_ne (by omega)]; exact h2
  · rw [List.getElem?_set_self (lt_ofI h3)]
  · rw [List.getElem?_set_ne (Ne.symm hn.2.2.1)]; exact hc
  · rw [List.getElem?_set_ne (by omega)]; exact h5
theorem FS.push (h : FS H0 X ks s A va v cs put) (x : Int) : FS H0 (X.set (H0.length + 3) ⟨v + 1, false, 2, 1, put.map (LV.int .i64) ++ [.int .i64 x]⟩) ks s A va (v + 1) cs (put ++ [x]) := by
  obtain ⟨h1, h2, h3, h4, h5, h6⟩ := h
  refine ⟨pre_setI h1 (by omega) _, ?_, ?_, ?_, ?_, h6⟩
  · rw [List.getElem?_set_ne (by omega)]; exact h2
  · rw [List.getElem?_set_ne (by omega)]; exact h3
  · rw [List.getElem?_set_ne (Ne.symm h6.2.2.2)]; exact h4
  · rw [List.getElem?_set_self (lt_ofI h5), List.map_append]; rfl
theorem FS.lB (h : FS H0 X ks s A va v cs put) : liveO X (H0.length + 2) 1 = true := liveO_atI h.bx
theorem FS.gB (h : FS H0 X ks s A va v cs put) (L : Hp) : hgets (X ++ L) (H0.length + 2) 1 0 2 = some [.int .i64 s, .sl A va 0 64 none] := by simp [hgets, at_appI h.bx L]
theorem FS.gB0 (h : FS H0 X ks s A va v cs put) : hgets X (H0.length + 2) 1 0 2 = some [.int .i64 s, .sl A va 0 64 none] := by simp [hgets, h.bx]
theorem FS.pB (h : FS H0 X ks s A va v cs put) (L : Hp) (x y : LV) : hput (X ++ L) (H0.length + 2) 1 0 [x, y] = some ((X ++ L).set (H0.length + 2) ⟨1, false, 28, 2, [x, y]⟩) := hputA_atI (at_appI h.bx L) (by simp)
theorem FS.rk (h : FS H0 X ks s A va v cs put) {n : Nat} (hn : ks.length = n) : RdL X (.sl H0.length 0 0 n none) (ks.map (LV.int .i64)) := RdL_id h.kr (by rw [List.length_map, hn])
theorem FS.rc (h : FS H0 X ks s A va v cs put) (hn : cs.length = 64) : RdL X (.sl A va 0 64 none) (cs.map (LV.int .i64)) := RdL_id h.ce (by rw [List.length_map, hn])
theorem FS.rp (h : FS H0 X ks s A va v cs put) : RdL X (.sl (H0.length + 3) v 0 put.length none) (put.map (LV.int .i64)) := RdL_id h.pu (List.length_map ..)
end
set_option maxHeartbeats 16000000 in
theorem lawFingers (a0v : LV) (a0x : List Int) (a1v : LV) (a1x : List Int) (H0 : Hp) (ha0x : RdL H0 a0v (a0x.map (LV.int .u8))) (na0x : a0x.length ≤ 9223372036854775807) (ba0x : ∀ y ∈ a0x, 0 ≤ y ∧ y ≤ 255) (ha1x : RdL H0 a1v (a1x.map (LV.int .u8))) (na1x : a1x.length ≤ 9223372036854775807) (ba1x : ∀ y ∈ a1x, 0 ≤ y ∧ y ≤ 255) : FunH Try.prog 3 [a0v, a1v] H0 fun r H' => r = .bool true := by
  have b0 : byB a0x := ba0x
  have b1 : byB a1x := ba1x
  have hLong := long48_c a0v a1v a0x a1x H0 ha0x ha1x
  cases e0 : (decide (48 < a0x.length) || decide (48 < a1x.length))
  case true =>
    rw [e0] at hLong
    (refine FunH_body tyOk Try.func3 rfl (by kernel_rfl) Try.ntmps3 (fun hcl hbd => ?_); simp only [List.length_cons, List.length_nil, Nat.reduceAdd, Nat.reduceSub, List.replicate, List.cons_append, List.nil_append])
    repeat' (first
 | ((with_reducible refine hK _ _ ?_); clear hK K)
 | ((first | (with_reducible show AOp _ _ _ _ _ _ _)); simp (disch := first | ((with_reducible show liveO _ _ _ = true); first | assumption | (exact hS.lB) | (exact liveO_setS (by assumption)) | (exact PtL.live (by assumption)) | (exact PtL.liveA (by assumption) _) | (simp only [go_sem]; done)) | omega | assumption | rfl | (simp only [go_sem]; first | done | omega)) only [go_sem, reduceIte, reduceCtorEq, Nat.reduceAdd, Nat.reduceMul, Nat.reduceSub, Nat.reduceLeDiff, Nat.lt_irrefl, Nat.reduceLT, Nat.reduceEqDiff, Nat.reduceBEq, Int.reduceLE, Int.reduceLT, Int.reduceToNat, w64, eq_self, e0])
 | (with_reducible refine AW_seq (fun K hK => ?_))
 | (with_reducible refine AW_region tyOk ?_)
 | (with_reducible refine AOps_cons (fun K hK => ?_))
 | ((with_reducible refine AOps_nil ?_); try simp only [thenA, blockA, if_true, if_false, reduceIte, Nat.reduceEqDiff, reduceCtorEq])
 | (with_reducible refine AW_block ?_)
 | ((first | (with_reducible refine AW_ret ?_) | (with_reducible refine AW_skip ?_) | (with_reducible refine AW_exit ?_)); try simp only [thenA, blockA, if_true, if_false, reduceIte, Nat.reduceEqDiff, reduceCtorEq])
 | ((with_reducible show AW _ _ (.cond _ _ _) _ _ _); refine AW_cond rfl (fun hg => ?_) (fun hg => ?_) <;> first | (exfalso; simp only [reduceCtorEq] at hg; done) | ((try simp only [Bool.not_eq_true', Bool.not_eq_false', decide_eq_true_eq, decide_eq_false_iff_not] at hg); try (exfalso; omega)))
 | ((with_reducible show _ ∧ _); refine And.intro (fun hg => ?_) (fun hg => ?_) <;> (try simp only [Bool.not_eq_true', Bool.not_eq_false'] at hg) <;> simp only [hg] <;> (try simp only [decide_eq_true_eq, decide_eq_false_iff_not] at hg) <;> (try (exfalso; omega)))
 | ((with_reducible apply FunH_intro); (first | ((with_reducible show FunH _ 4 _ _ _); exact hLong)))
 | (clear hK K)
      | fail)
    all_goals (first | refine EndA_cut hcl (by first | exact Or.inr rfl | exact Or.inl rfl) (by simp only [Try.results3, resA, aresL, go_sem, reduceIte, reduceCtorEq, Nat.reduceAdd, Nat.reduceMul, Nat.reduceSub, Nat.reduceLeDiff, Nat.lt_irrefl, Nat.reduceLT, Nat.reduceEqDiff, Nat.reduceBEq, Int.reduceLE, Int.reduceLT, Int.reduceToNat, w64, eq_self] <;> rfl) rfl ?_ | refine EndA_same (by first | exact Or.inr rfl | exact Or.inl rfl) (by simp only [Try.results3, resA, aresL, go_sem, reduceIte, reduceCtorEq, Nat.reduceAdd, Nat.reduceMul, Nat.reduceSub, Nat.reduceLeDiff, Nat.lt_irrefl, Nat.reduceLT, Nat.reduceEqDiff, Nat.reduceBEq, Int.reduceLE, Int.reduceLT, Int.reduceToNat, w64, eq_self] <;> rfl) ?_)
    all_goals rfl
  rw [e0] at hLong
  obtain ⟨n1, n2⟩ := rAt_in b1 40 (n := 12) (by omega)
  obtain ⟨s1, s2⟩ := rAt_in b1 41 (n := 256) (by omega)
  obtain ⟨u1, u2⟩ := rAt_in b1 42 (n := 256) (by omega)
  obtain ⟨n, hn⟩ : ∃ n : Nat, 1 + rAt a1x 40 12 = (n : Int) := ⟨(1 + rAt a1x 40 12).toNat, by omega⟩
  obtain ⟨s, hs⟩ : ∃ s, rAt a1x 41 256 = s := ⟨_, rfl⟩
  obtain ⟨u, hu⟩ : ∃ u, rAt a1x 42 256 = u := ⟨_, rfl⟩
  rw [hs] at s1 s2
  rw [hu] at u1 u2
  have hR8 := R8Different_c a0v a0x n H0 ha0x b0 na0x (by omega)
  obtain ⟨ks, hks⟩ : ∃ ks, r8D a0x n = ks := ⟨_, rfl⟩
  have hkl : ks.length = n := by rw [← hks, r8D_len]
  have hkb : ∀ x ∈ ks, 0 ≤ x ∧ x ≤ 4294967295 := fun x hx => by
    rw [← hks] at hx
    unfold r8D at hx
    obtain ⟨j, hj, rfl⟩ := List.mem_map.1 hx
    have h1 := r8V_in b0 j
    have h2 := List.mem_range.1 hj
    omega
  rw [hks] at hR8
  have hA0 : ∀ L, RdL L a1v (a1x.map (LV.int .u8)) → FunH Try.prog 6 [a1v, .int .i64 40, .int .i64 12] L fun r H' => r = .int .i64 (rAt a1x 40 12) ∧ H' = L := fun L h => r8At_c a1v a1x 40 12 L h b1 na1x (by omega) (by omega)
  have hA1 : ∀ L, RdL L a1v (a1x.map (LV.int .u8)) → FunH Try.prog 6 [a1v, .int .i64 41, .int .i64 256] L fun r H' => r = .int .i64 (rAt a1x 41 256) ∧ H' = L := fun L h => r8At_c a1v a1x 41 256 L h b1 na1x (by omega) (by omega)
  have hA2 : ∀ L, RdL L a1v (a1x.map (LV.int .u8)) → FunH Try.prog 6 [a1v, .int .i64 42, .int .i64 256] L fun r H' => r = .int .i64 (rAt a1x 42 256) ∧ H' = L := fun L h => r8At_c a1v a1x 42 256 L h b1 na1x (by omega) (by omega)
  obtain ⟨z, hz⟩ : ∃ z : List Int, List.replicate 64 0 = z := ⟨_, rfl⟩
  have hmk : ∀ (L : Hp), amake ⟨.int .i64, 1, 8, [.int .i64 0]⟩ 2 L 64 64 = some (.sl L.length 0 0 64 none, L ++ [⟨0, false, 2, 1, z.map (LV.int .i64)⟩]) := fun L => by
    have := amake_ok (te := ⟨.int .i64, 1, 8, [.int .i64 0]⟩) (el := 2) (H := L) (l := 64) (c := 64) (Nat.le_refl _) (by omega) (by simp)
    rw [← hz, List.map_replicate]
    exact this
  (refine FunH_body tyOk Try.func3 rfl (by kernel_rfl) Try.ntmps3 (fun hcl hbd => ?_); simp only [List.length_cons, List.length_nil, Nat.reduceAdd, Nat.reduceSub, List.replicate, List.cons_append, List.nil_append])
  repeat' (first
 | ((with_reducible refine hK _ _ ?_); clear hK K)
 | ((first | (with_reducible show AOp _ _ _ _ _ _ _)); simp (disch := first | ((with_reducible show liveO _ _ _ = true); first | assumption | (exact hS.lB) | (exact liveO_setS (by assumption)) | (exact PtL.live (by assumption)) | (exact PtL.liveA (by assumption) _) | (simp only [go_sem]; done)) | omega | assumption | rfl | (simp only [go_sem]; first | done | omega)) only [go_sem, reduceIte, reduceCtorEq, Nat.reduceAdd, Nat.reduceMul, Nat.reduceSub, Nat.reduceLeDiff, Nat.lt_irrefl, Nat.reduceLT, Nat.reduceEqDiff, Nat.reduceBEq, Int.reduceLE, Int.reduceLT, Int.reduceToNat, w64, eq_self, e0, hn])
 | ((with_reducible refine AW_seqN [4] ?_ (fun K hK => ?_)); (exact rfl))
 | (with_reducible refine AW_region tyOk ?_)
 | (with_reducible refine AOps_cons (fun K hK => ?_))
 | ((with_reducible refine AOps_nil ?_); try simp only [thenA, blockA, if_true, if_false, reduceIte, Nat.reduceEqDiff, reduceCtorEq])
 | (with_reducible refine AW_block ?_)
 | ((first | (with_reducible refine AW_ret ?_) | (with_reducible refine AW_skip ?_) | (with_reducible refine AW_exit ?_)); try simp only [thenA, blockA, if_true, if_false, reduceIte, Nat.reduceEqDiff, reduceCtorEq])
 | ((with_reducible show AW _ _ (.cond _ _ _) _ _ _); refine AW_cond rfl (fun hg => ?_) (fun hg => ?_) <;> first | (exfalso; simp only [reduceCtorEq] at hg; done) | ((try simp only [Bool.not_eq_true', Bool.not_eq_false', decide_eq_true_eq, decide_eq_false_iff_not] at hg); try (exfalso; omega)))
 | ((with_reducible show _ ∧ _); refine And.intro (fun hg => ?_) (fun hg => ?_) <;> (try simp only [Bool.not_eq_true', Bool.not_eq_false'] at hg) <;> simp only [hg] <;> (try simp only [decide_eq_true_eq, decide_eq_false_iff_not] at hg) <;> (try (exfalso; omega)))
 | ((with_reducible apply FunH_intro); (first | ((with_reducible show FunH _ 4 _ _ _); exact hLong) | ((with_reducible show FunH _ 6 _ _ _); exact hA0 _ ha1x) | ((with_reducible show FunH _ 5 _ _ _); exact hR8)))
 | (clear hK K)
    | fail)
  obtain ⟨H, hH⟩ : ∃ H, H0 ++ [(⟨0, false, 2, 1, ks.map (LV.int .i64)⟩ : AO)] = H := ⟨_, rfl⟩
  have hHl : H.length = H0.length + 1 := by rw [← hH]; simp
  rw [hH]
  repeat' (first
 | ((with_reducible refine hK _ _ ?_); clear hK K)
 | ((with_reducible refine hK _ ?_); clear hK K; try simp only [])
 | ((with_reducible refine hK _ _ ?_ ?_); (first | exact Or.inl rfl | exact Or.inr (fun _ => by (first | exact ⟨_, rfl⟩ | exact ⟨_, by rw [List.append_assoc]; rfl⟩ | exact ⟨_, by simp only [List.append_assoc, List.cons_append, List.nil_append]; rfl⟩ | exact ⟨_, by rw [hp_setj, List.append_assoc]; rfl⟩ | exact ⟨_, hp_setj _ _ _ _⟩ | exact ⟨[], (List.append_nil _).symm⟩))); clear hK K)
 | ((first | (with_reducible show AOp _ _ _ _ _ _ _) | (with_reducible show AQOp _ _ _ _ _ _ _)); simp (disch := first | ((with_reducible show liveO _ _ _ = true); first | assumption | (exact hS.lB) | (exact liveO_setS (by assumption)) | (exact PtL.live (by assumption)) | (exact PtL.liveA (by assumption) _) | (simp only [go_sem]; done)) | omega | assumption | rfl | (simp only [go_sem]; first | done | omega)) only [go_sem, reduceIte, reduceCtorEq, Nat.reduceAdd, Nat.reduceMul, Nat.reduceSub, Nat.reduceLeDiff, Nat.lt_irrefl, Nat.reduceLT, Nat.reduceEqDiff, Nat.reduceBEq, Int.reduceLE, Int.reduceLT, Int.reduceToNat, w64, eq_self, hs, hmk])
 | (with_reducible refine AW_seq (fun K hK => ?_))
 | (with_reducible refine AW_region tyOk ?_)
 | ((with_reducible apply AW_treeV (id := 4) tyOk 6 [(2, H.length), (4, H.length + 1)] [(2, 1), (28, 2)] [5]); (kernel_rfl); (exact rfl); simp only [List.map_cons, List.map_nil, List.append_assoc, List.cons_append, List.nil_append])
 | ((with_reducible refine AAnyR_leaf (by decide +kernel) ?_); (with_reducible exact Wk.refl))
 | ((with_reducible refine AAnyR_quiet 0 rfl rfl ?_ (by decide +kernel) (by decide +kernel) (by decide +kernel) (by decide +kernel) (by (first | exact ⟨_, rfl⟩ | exact ⟨_, by rw [List.append_assoc]; rfl⟩ | exact ⟨_, by simp only [List.append_assoc, List.cons_append, List.nil_append]; rfl⟩ | exact ⟨_, by rw [hp_setj, List.append_assoc]; rfl⟩ | exact ⟨_, hp_setj _ _ _ _⟩ | exact ⟨[], (List.append_nil _).symm⟩)) (fun K hK => ?_)); (exact rfl))
 | (with_reducible refine AAnyR_step 1 [2, 4] (by decide +kernel) ?_)
 | (with_reducible refine AAnyR_step 1 [2] (by decide +kernel) ?_)
 | (with_reducible refine AAnyR_step 1 [4] (by decide +kernel) ?_)
 | (with_reducible refine AAnyR_step 2 [4] (by decide +kernel) ?_)
 | (with_reducible refine AAnyR_step 3 [4] (by decide +kernel) ?_)
 | (with_reducible refine AAnyR_step 1 [] (by decide +kernel) ?_)
 | (with_reducible refine AAnyR_step 2 [] (by decide +kernel) ?_)
 | (with_reducible refine AAnyR_step 3 [] (by decide +kernel) ?_)
 | (with_reducible refine AAnyR_step 4 [] (by decide +kernel) ?_)
 | (with_reducible refine AAnyR_step 5 [] (by decide +kernel) ?_)
 | ((with_reducible refine AAllR_res (i := 2) (H.length) 41 ?_ rfl ?_ (fun K hK => ?_) ?_); (exact rfl); (exact rfl))
 | ((with_reducible refine AAllR_res (i := 4) (H.length + 1) 6 ?_ rfl ?_ (fun K hK => ?_) ?_); (exact rfl); (exact rfl))
 | ((with_reducible show RK _ _ _ _ _ _); (try simp only [List.append_assoc, List.cons_append, List.nil_append, hp_setj, List.set_cons_succ, List.set_cons_zero]); refine RK_intro _ (by first | exact List.append_assoc _ _ _ | rfl) (by first | exact (hp_getj _ _ _).trans rfl | exact (hp_get0 _ _).trans rfl) rfl rfl (by first | exact (fun c hc => (scal_int _ _ c hc).2) | (intro c hc; simp only [List.mem_cons, List.not_mem_nil, or_false] at hc; (try (rcases hc with rfl | rfl | rfl | rfl | rfl)) <;> first | exact trivial | (subst hc; exact trivial) | (cases hc; done))) (by first | exact ⟨_, _, rfl, by simp, Or.inl rfl⟩ | exact ⟨_, _, rfl, by simp, Or.inr ⟨_, rfl⟩⟩) ?_; simp only [hp_setj, hp_set0, List.set_cons_succ, List.set_cons_zero, List.getD_cons_succ, List.getD_cons_zero, reloc]; refine ⟨Or.inr (fun _ => by (first | exact ⟨_, rfl⟩ | exact ⟨_, by rw [List.append_assoc]; rfl⟩ | exact ⟨_, by simp only [List.append_assoc, List.cons_append, List.nil_append]; rfl⟩ | exact ⟨_, by rw [hp_setj, List.append_assoc]; rfl⟩ | exact ⟨_, hp_setj _ _ _ _⟩ | exact ⟨[], (List.append_nil _).symm⟩)), ?_⟩)
 | ((with_reducible refine AAllR_cons ?_ rfl (fun K hK => ?_) ?_); (exact rfl))
 | (with_reducible exact AAllR_nil)
 | ((with_reducible show thenA _ _ _ _ _); simp only [thenA, blockA, if_true, if_false, reduceIte])
 | ((with_reducible show blockA _ _ _ _ _); simp only [thenA, blockA, if_true, if_false, reduceIte, Nat.reduceEqDiff, reduceCtorEq])
 | (with_reducible refine AOps_cons (fun K hK => ?_))
 | (with_reducible refine AQOps_cons (fun K hK => ?_))
 | ((with_reducible refine AQOps_nil ?_); try simp only [thenA, blockA, if_true, if_false, reduceIte, Nat.reduceEqDiff, reduceCtorEq])
 | ((with_reducible refine AOps_nil ?_); try simp only [thenA, blockA, if_true, if_false, reduceIte, Nat.reduceEqDiff, reduceCtorEq])
 | (with_reducible refine AW_block ?_)
 | ((first | (with_reducible refine AW_ret ?_) | (with_reducible refine AW_skip ?_) | (with_reducible refine AW_exit ?_)); try simp only [thenA, blockA, if_true, if_false, reduceIte, Nat.reduceEqDiff, reduceCtorEq])
 | ((with_reducible show AW _ _ (.cond _ _ _) _ _ _); refine AW_cond rfl (fun hg => ?_) (fun hg => ?_) <;> first | (exfalso; simp only [reduceCtorEq] at hg; done) | ((try simp only [Bool.not_eq_true', Bool.not_eq_false', decide_eq_true_eq, decide_eq_false_iff_not] at hg); try (exfalso; omega)))
 | ((with_reducible show _ ∧ _); refine And.intro (fun hg => ?_) (fun hg => ?_) <;> (try simp only [Bool.not_eq_true', Bool.not_eq_false'] at hg) <;> simp only [hg] <;> (try simp only [decide_eq_true_eq, decide_eq_false_iff_not] at hg) <;> (try (exfalso; omega)))
 | ((first | (with_reducible apply FunH_intro) | (with_reducible apply AQ_intro)); (first | ((with_reducible show FunH _ 6 _ _ _); exact hA1 _ (by rw [← hH, List.append_assoc]; exact ha1x.app _))))
 | (clear hK K)
    | fail)
  have hFS : FS H0 (H ++ [⟨1, false, 2, 1, z.map (LV.int .i64)⟩, ⟨1, false, 28, 2, [.int .i64 s, .sl H.length 1 0 64 none]⟩, ⟨0, false, 2, 1, []⟩]) ks s (H0.length + 1) 1 0 z [] := by
    rw [hHl, ← hH, List.append_assoc]
    exact ⟨⟨_, rfl⟩, (hp_get0 _ _).trans rfl, (hp_getj _ _ _).trans rfl, (hp_getj _ _ _).trans rfl, (hp_getj _ _ _).trans rfl, by omega⟩
  have hzl : z.length = 64 := by rw [← hz, List.length_replicate]
  have hkB : ∀ x ∈ ks, keyB x = true := fun x hx => (keyB_iff x).2 (hkb x hx)
  have hks1 : keyB s = true := (keyB_iff s).2 (by omega)
  have hks2 : keyB u = true := (keyB_iff u).2 (by omega)
  have hfg0 : fgI s 32 z [] := by
    refine ⟨?_, by omega, ?_⟩
    · unfold fingB
      rw [hks1, hzl, ← hz]
      decide
    · rw [← hz, fgL_zero]; exact List.Perm.nil
  obtain ⟨X0, hX0⟩ : ∃ X0, H ++ [(⟨1, false, 2, 1, z.map (LV.int .i64)⟩ : AO), ⟨1, false, 28, 2, [.int .i64 s, .sl H.length 1 0 64 none]⟩, ⟨0, false, 2, 1, []⟩] = X0 := ⟨_, rfl⟩
  rw [hX0] at hFS ⊢
  have hHl1 : H.length + 1 = H0.length + 2 := by omega
  have hHl2 : H.length + 2 = H0.length + 3 := by omega
  simp only [hHl1, hHl2]
  refine AW_loopV [4, 7, 8, 9, 10, 11, 12, 13, 44, 45, 46, 47, 48, 49, 50, 51, 52, 53, 54, 55, 56, 57, 58, 59, 60, 61, 62, 63, 64, 65, 66, 67, 68, 69, 70, 71, 72, 73, 74, 75, 76, 77, 78, 79, 80, 81, 82, 83, 84, 85, 86, 87, 88, 89, 90, 91, 92, 93, 94, 95] (fun p : Nat × Hp × (Nat × Nat × Nat) × (List Int × List Int) => [(7, .sl (H0.length + 3) p.2.2.1.2.2 0 p.2.2.2.2.length none), (8, .int .i64 (p.1 : Nat))]) (fun p => p.2.1)
    (fun p => p.1 ≤ n ∧ FS H0 p.2.1 ks s p.2.2.1.1 p.2.2.1.2.1 p.2.2.1.2.2 p.2.2.2.1 p.2.2.2.2 ∧ fgI s 32 p.2.2.2.1 p.2.2.2.2 ∧ p.2.2.2.2.length ≤ p.1 ∧ ∀ x ∈ p.2.2.2.2, x ∈ ks) (fun p => n - p.1) (0, X0, (H0.length + 1, 1, 0), z, []) ⟨Nat.zero_le _, hFS, hfg0, Nat.le_refl _, fun x hx => by cases hx⟩ ?_ rfl ?_
  · simp only [junkAll, setAll, List.foldl_cons, List.foldl_nil, List.set_cons_succ, List.set_cons_zero, JL, true_or, or_true, and_true, true_and, reduceCtorEq, false_or, or_false, LV.int.injEq, LV.bool.injEq, LV.flt.injEq, LV.sl.injEq, LV.ptr.injEq, eq_self, Int.natCast_add, Int.natCast_one, Int.natCast_zero, Int.ofNat_zero]; rfl
  clear hFS hfg0 hX0 hHl1 hHl2 hHl hH hzl hz hmk
  intro ⟨i, H, ⟨A, va, v⟩, cs, put⟩ ⟨hi, hS, hI, hpl, hps⟩ K hK
  simp only at hi hS hI hpl hps
  have hrk := hS.rk hkl
  have hcl : cs.length = 64 := hI.len
  have hrc := hS.rc hcl
  simp only [junkAll, setAll, List.foldl_cons, List.foldl_nil, List.set_cons_succ, List.set_cons_zero]
  by_cases hin : i < n
  · obtain ⟨k, hk⟩ : ∃ k, ix ks i = k := ⟨_, rfl⟩
    have hkm : k ∈ ks := by rw [← hk]; exact ix_mem ks i (by omega)
    have hpf := fun o : AO => iPutFinger_c s _ cs k (H ++ [o]) (hrc.app _) (by omega)
    simp only [List.length_append, List.length_cons, List.length_nil, Nat.zero_add, List.append_assoc, List.cons_append, List.nil_append] at hpf
    cases hp : pfA k s cs with
    | none =>
      have h2i := hI.must (hkB k hkm) hp
      rw [hp] at hpf
      simp only [Option.isSome_none, Option.getD_none, if_false, Bool.false_eq_true, List.length_nil, List.map_nil, reduceIte] at hpf
      have hi2 : ¬ ((i : Int) < 2) := by omega
      repeat' (first
 | ((with_reducible refine hK _ _ ?_); clear hK K)
 | ((with_reducible refine hK _ ?_); clear hK K; try simp only [])
 | ((with_reducible refine hK _ _ ?_ ?_); (first | exact Or.inl rfl | exact Or.inr (fun _ => by (first | exact ⟨_, rfl⟩ | exact ⟨_, by rw [List.append_assoc]; rfl⟩ | exact ⟨_, by simp only [List.append_assoc, List.cons_append, List.nil_append]; rfl⟩ | exact ⟨_, by rw [hp_setj, List.append_assoc]; rfl⟩ | exact ⟨_, hp_setj _ _ _ _⟩ | exact ⟨[], (List.append_nil _).symm⟩))); clear hK K)
 | ((first | (with_reducible show AOp _ _ _ _ _ _ _) | (with_reducible show AQOp _ _ _ _ _ _ _)); simp (disch := first | ((with_reducible show liveO _ _ _ = true); first | assumption | (exact hS.lB) | (exact liveO_setS (by assumption)) | (exact PtL.live (by assumption)) | (exact PtL.liveA (by assumption) _) | (simp only [go_sem]; done)) | omega | assumption | rfl | (simp only [go_sem]; first | done | omega)) only [go_sem, reduceIte, reduceCtorEq, Nat.reduceAdd, Nat.reduceMul, Nat.reduceSub, Nat.reduceLeDiff, Nat.lt_irrefl, Nat.reduceLT, Nat.reduceEqDiff, Nat.reduceBEq, Int.reduceLE, Int.reduceLT, Int.reduceToNat, w64, eq_self, hS.gB, hS.gB0, hrk.idxm, hrk.ldm, hrk.idxmA, hrk.ldmA, hkl, hk, hi2])
 | (with_reducible refine AW_seq (fun K hK => ?_))
 | (with_reducible refine AW_region tyOk ?_)
 | ((with_reducible apply AW_treeV (id := 9) tyOk 12 [(9, H.length)] [(28, 2)] [10, 11]); (kernel_rfl); (exact rfl); simp only [List.map_cons, List.map_nil, List.append_assoc, List.cons_append, List.nil_append])
 | ((with_reducible refine AAnyR_leaf (by decide +kernel) ?_); (with_reducible exact Wk.refl))
 | ((with_reducible refine AAnyR_quiet 0 rfl rfl ?_ (by decide +kernel) (by decide +kernel) (by decide +kernel) (by decide +kernel) (by (first | exact ⟨_, rfl⟩ | exact ⟨_, by rw [List.append_assoc]; rfl⟩ | exact ⟨_, by simp only [List.append_assoc, List.cons_append, List.nil_append]; rfl⟩ | exact ⟨_, by rw [hp_setj, List.append_assoc]; rfl⟩ | exact ⟨_, hp_setj _ _ _ _⟩ | exact ⟨[], (List.append_nil _).symm⟩)) (fun K hK => ?_)); (exact rfl))
 | ((with_reducible refine AAnyR_quiet 1 rfl rfl ?_ (by decide +kernel) (by decide +kernel) (by decide +kernel) (by decide +kernel) (by (first | exact ⟨_, rfl⟩ | exact ⟨_, by rw [List.append_assoc]; rfl⟩ | exact ⟨_, by simp only [List.append_assoc, List.cons_append, List.nil_append]; rfl⟩ | exact ⟨_, by rw [hp_setj, List.append_assoc]; rfl⟩ | exact ⟨_, hp_setj _ _ _ _⟩ | exact ⟨[], (List.append_nil _).symm⟩)) (fun K hK => ?_)); (exact rfl))
 | ((with_reducible refine AAnyR_quiet 2 rfl rfl ?_ (by decide +kernel) (by decide +kernel) (by decide +kernel) (by decide +kernel) (by (first | exact ⟨_, rfl⟩ | exact ⟨_, by rw [List.append_assoc]; rfl⟩ | exact ⟨_, by simp only [List.append_assoc, List.cons_append, List.nil_append]; rfl⟩ | exact ⟨_, by rw [hp_setj, List.append_assoc]; rfl⟩ | exact ⟨_, hp_setj _ _ _ _⟩ | exact ⟨[], (List.append_nil _).symm⟩)) (fun K hK => ?_)); (exact rfl))
 | ((with_reducible refine AAnyR_quiet 3 rfl rfl ?_ (by decide +kernel) (by decide +kernel) (by decide +kernel) (by decide +kernel) (by (first | exact ⟨_, rfl⟩ | exact ⟨_, by rw [List.append_assoc]; rfl⟩ | exact ⟨_, by simp only [List.append_assoc, List.cons_append, List.nil_append]; rfl⟩ | exact ⟨_, by rw [hp_setj, List.append_assoc]; rfl⟩ | exact ⟨_, hp_setj _ _ _ _⟩ | exact ⟨[], (List.append_nil _).symm⟩)) (fun K hK => ?_)); (exact rfl))
 | ((with_reducible refine AAnyR_quiet 4 rfl rfl ?_ (by decide +kernel) (by decide +kernel) (by decide +kernel) (by decide +kernel) (by (first | exact ⟨_, rfl⟩ | exact ⟨_, by rw [List.append_assoc]; rfl⟩ | exact ⟨_, by simp only [List.append_assoc, List.cons_append, List.nil_append]; rfl⟩ | exact ⟨_, by rw [hp_setj, List.append_assoc]; rfl⟩ | exact ⟨_, hp_setj _ _ _ _⟩ | exact ⟨[], (List.append_nil _).symm⟩)) (fun K hK => ?_)); (exact rfl))
 | ((with_reducible refine AAnyR_quiet 6 rfl rfl ?_ (by decide +kernel) (by decide +kernel) (by decide +kernel) (by decide +kernel) (by (first | exact ⟨_, rfl⟩ | exact ⟨_, by rw [List.append_assoc]; rfl⟩ | exact ⟨_, by simp only [List.append_assoc, List.cons_append, List.nil_append]; rfl⟩ | exact ⟨_, by rw [hp_setj, List.append_assoc]; rfl⟩ | exact ⟨_, hp_setj _ _ _ _⟩ | exact ⟨[], (List.append_nil _).symm⟩)) (fun K hK => ?_)); (exact rfl))
 | ((with_reducible refine AAnyR_quiet 7 rfl rfl ?_ (by decide +kernel) (by decide +kernel) (by decide +kernel) (by decide +kernel) (by (first | exact ⟨_, rfl⟩ | exact ⟨_, by rw [List.append_assoc]; rfl⟩ | exact ⟨_, by simp only [List.append_assoc, List.cons_append, List.nil_append]; rfl⟩ | exact ⟨_, by rw [hp_setj, List.append_assoc]; rfl⟩ | exact ⟨_, hp_setj _ _ _ _⟩ | exact ⟨[], (List.append_nil _).symm⟩)) (fun K hK => ?_)); (exact rfl))
 | (with_reducible refine AAnyR_step 5 [9] (by decide +kernel) ?_)
 | (with_reducible refine AAnyR_step 8 [9] (by decide +kernel) ?_)
 | (with_reducible refine AAnyR_step 8 [10] (by decide +kernel) ?_)
 | (with_reducible refine AAnyR_step 5 [] (by decide +kernel) ?_)
 | (with_reducible refine AAnyR_step 8 [] (by decide +kernel) ?_)
 | (with_reducible refine AAnyR_step 9 [] (by decide +kernel) ?_)
 | (with_reducible refine AAnyR_step 10 [] (by decide +kernel) ?_)
 | (with_reducible refine AAnyR_step 11 [] (by decide +kernel) ?_)
 | ((with_reducible refine AAllR_res (i := 9) (H.length) 9 ?_ rfl ?_ (fun K hK => ?_) ?_); (exact rfl); (exact rfl))
 | ((with_reducible show RK _ _ _ _ _ _); (try simp only [List.append_assoc, List.cons_append, List.nil_append, hp_setj, List.set_cons_succ, List.set_cons_zero]); refine RK_intro _ (by first | exact List.append_assoc _ _ _ | rfl) (by first | exact (hp_getj _ _ _).trans rfl | exact (hp_get0 _ _).trans rfl) rfl rfl (by first | exact (fun c hc => (scal_int _ _ c hc).2) | (intro c hc; simp only [List.mem_cons, List.not_mem_nil, or_false] at hc; (try (rcases hc with rfl | rfl | rfl | rfl | rfl)) <;> first | exact trivial | (subst hc; exact trivial) | (cases hc; done))) (by first | exact ⟨_, _, rfl, by simp, Or.inl rfl⟩ | exact ⟨_, _, rfl, by simp, Or.inr ⟨_, rfl⟩⟩) ?_; simp only [hp_setj, hp_set0, List.set_cons_succ, List.set_cons_zero, List.getD_cons_succ, List.getD_cons_zero, reloc]; refine ⟨Or.inr (fun _ => by (first | exact ⟨_, rfl⟩ | exact ⟨_, by rw [List.append_assoc]; rfl⟩ | exact ⟨_, by simp only [List.append_assoc, List.cons_append, List.nil_append]; rfl⟩ | exact ⟨_, by rw [hp_setj, List.append_assoc]; rfl⟩ | exact ⟨_, hp_setj _ _ _ _⟩ | exact ⟨[], (List.append_nil _).symm⟩)), ?_⟩)
 | ((with_reducible refine AAllR_cons ?_ rfl (fun K hK => ?_) ?_); (exact rfl))
 | (with_reducible exact AAllR_nil)
 | ((with_reducible show thenA _ _ _ _ _); simp only [thenA, blockA, if_true, if_false, reduceIte])
 | ((with_reducible show blockA _ _ _ _ _); simp only [thenA, blockA, if_true, if_false, reduceIte, Nat.reduceEqDiff, reduceCtorEq])
 | (with_reducible refine AOps_cons (fun K hK => ?_))
 | (with_reducible refine AQOps_cons (fun K hK => ?_))
 | ((with_reducible refine AQOps_nil ?_); try simp only [thenA, blockA, if_true, if_false, reduceIte, Nat.reduceEqDiff, reduceCtorEq])
 | ((with_reducible refine AOps_nil ?_); try simp only [thenA, blockA, if_true, if_false, reduceIte, Nat.reduceEqDiff, reduceCtorEq])
 | (with_reducible refine AW_block ?_)
 | ((first | (with_reducible refine AW_ret ?_) | (with_reducible refine AW_skip ?_) | (with_reducible refine AW_exit ?_)); try simp only [thenA, blockA, if_true, if_false, reduceIte, Nat.reduceEqDiff, reduceCtorEq])
 | ((with_reducible show AW _ _ (.cond _ _ _) _ _ _); refine AW_cond rfl (fun hg => ?_) (fun hg => ?_) <;> first | (exfalso; simp only [reduceCtorEq] at hg; done) | ((try simp only [Bool.not_eq_true', Bool.not_eq_false', decide_eq_true_eq, decide_eq_false_iff_not] at hg); try (exfalso; omega)))
 | ((with_reducible show _ ∧ _); refine And.intro (fun hg => ?_) (fun hg => ?_) <;> (try simp only [Bool.not_eq_true', Bool.not_eq_false'] at hg) <;> simp only [hg] <;> (try simp only [decide_eq_true_eq, decide_eq_false_iff_not] at hg) <;> (try (exfalso; omega)))
 | ((first | (with_reducible apply FunH_intro) | (with_reducible apply AQ_intro)); (first | ((with_reducible show FunH _ 7 _ _ _); exact hpf _)))
 | (clear hK K)
        | fail)
      refine hK _ _ (i + 1, _, (A, va, v), cs, put) ⟨by simp only; omega, hS.app _, hI, by simp only; omega, hps⟩ (by simp only; omega) ?_ rfl
      simp only [junkAll, setAll, List.foldl_cons, List.foldl_nil, List.set_cons_succ, List.set_cons_zero, JL, true_or, or_true, and_true, true_and, reduceCtorEq, false_or, or_false, LV.int.injEq, LV.bool.injEq, LV.flt.injEq, LV.sl.injEq, LV.ptr.injEq, eq_self, Int.natCast_add, Int.natCast_one, Int.natCast_zero, Int.ofNat_zero]
    | some out =>
      rw [hp] at hpf
      have hol : out.length = 64 := by have := (hI.put hp).len; omega
      simp only [Option.isSome_some, Option.getD_some, if_true, reduceIte, hol] at hpf
      repeat' (first
 | ((with_reducible refine hK _ _ ?_); clear hK K)
 | ((with_reducible refine hK _ ?_); clear hK K; try simp only [])
 | ((with_reducible refine hK _ _ ?_ ?_); (first | exact Or.inl rfl | exact Or.inr (fun _ => by (first | exact ⟨_, rfl⟩ | exact ⟨_, by rw [List.append_assoc]; rfl⟩ | exact ⟨_, by simp only [List.append_assoc, List.cons_append, List.nil_append]; rfl⟩ | exact ⟨_, by rw [hp_setj, List.append_assoc]; rfl⟩ | exact ⟨_, hp_setj _ _ _ _⟩ | exact ⟨[], (List.append_nil _).symm⟩))); clear hK K)
 | ((first | (with_reducible show AOp _ _ _ _ _ _ _) | (with_reducible show AQOp _ _ _ _ _ _ _)); simp (disch := first | ((with_reducible show liveO _ _ _ = true); first | assumption | (exact hS.lB) | (exact liveO_setS (by assumption)) | (exact PtL.live (by assumption)) | (exact PtL.liveA (by assumption) _) | (simp only [go_sem]; done)) | omega | assumption | rfl | (simp only [go_sem]; first | done | omega)) only [go_sem, reduceIte, reduceCtorEq, Nat.reduceAdd, Nat.reduceMul, Nat.reduceSub, Nat.reduceLeDiff, Nat.lt_irrefl, Nat.reduceLT, Nat.reduceEqDiff, Nat.reduceBEq, Int.reduceLE, Int.reduceLT, Int.reduceToNat, w64, eq_self, hS.gB, hS.gB0, hrk.idxm, hrk.ldm, hrk.idxmA, hrk.ldmA, hkl, hk, hS.pB])
 | ((with_reducible refine AW_seqN [14] ?_ (fun K hK => ?_)); (exact rfl))
 | (with_reducible refine AW_region tyOk ?_)
 | ((with_reducible apply AW_treeV (id := 9) tyOk 12 [(9, H.length)] [(28, 2)] [10, 11]); (kernel_rfl); (exact rfl); simp only [List.map_cons, List.map_nil, List.append_assoc, List.cons_append, List.nil_append])
 | ((with_reducible refine AAnyR_leaf (by decide +kernel) ?_); (with_reducible exact Wk.refl))
 | ((with_reducible refine AAnyR_quiet 0 rfl rfl ?_ (by decide +kernel) (by decide +kernel) (by decide +kernel) (by decide +kernel) (by (first | exact ⟨_, rfl⟩ | exact ⟨_, by rw [List.append_assoc]; rfl⟩ | exact ⟨_, by simp only [List.append_assoc, List.cons_append, List.nil_append]; rfl⟩ | exact ⟨_, by rw [hp_setj, List.append_assoc]; rfl⟩ | exact ⟨_, hp_setj _ _ _ _⟩ | exact ⟨[], (List.append_nil _).symm⟩)) (fun K hK => ?_)); (exact rfl))
 | ((with_reducible refine AAnyR_quiet 1 rfl rfl ?_ (by decide +kernel) (by decide +kernel) (by decide +kernel) (by decide +kernel) (by (first | exact ⟨_, rfl⟩ | exact ⟨_, by rw [List.append_assoc]; rfl⟩ | exact ⟨_, by simp only [List.append_assoc, List.cons_append, List.nil_append]; rfl⟩ | exact ⟨_, by rw [hp_setj, List.append_assoc]; rfl⟩ | exact ⟨_, hp_setj _ _ _ _⟩ | exact ⟨[], (List.append_nil _).symm⟩)) (fun K hK => ?_)); (exact rfl))
 | ((with_reducible refine AAnyR_quiet 2 rfl rfl ?_ (by decide +kernel) (by decide +kernel) (by decide +kernel) (by decide +kernel) (by (first | exact ⟨_, rfl⟩ | exact ⟨_, by rw [List.append_assoc]; rfl⟩ | exact ⟨_, by simp only [List.append_assoc, List.cons_append, List.nil_append]; rfl⟩ | exact ⟨_, by rw [hp_setj, List.append_assoc]; rfl⟩ | exact ⟨_, hp_setj _ _ _ _⟩ | exact ⟨[], (List.append_nil _).symm⟩)) (fun K hK => ?_)); (exact rfl))
 | ((with_reducible refine AAnyR_quiet 3 rfl rfl ?_ (by decide +kernel) (by decide +kernel) (by decide +kernel) (by decide +kernel) (by (first | exact ⟨_, rfl⟩ | exact ⟨_, by rw [List.append_assoc]; rfl⟩ | exact ⟨_, by simp only [List.append_assoc, List.cons_append, List.nil_append]; rfl⟩ | exact ⟨_, by rw [hp_setj, List.append_assoc]; rfl⟩ | exact ⟨_, hp_setj _ _ _ _⟩ | exact ⟨[], (List.append_nil _).symm⟩)) (fun K hK => ?_)); (exact rfl))
 | ((with_reducible refine AAnyR_quiet 4 rfl rfl ?_ (by decide +kernel) (by decide +kernel) (by decide +kernel) (by decide +kernel) (by (first | exact ⟨_, rfl⟩ | exact ⟨_, by rw [List.append_assoc]; rfl⟩ | exact ⟨_, by simp only [List.append_assoc, List.cons_append, List.nil_append]; rfl⟩ | exact ⟨_, by rw [hp_setj, List.append_assoc]; rfl⟩ | exact ⟨_, hp_setj _ _ _ _⟩ | exact ⟨[], (List.append_nil _).symm⟩)) (fun K hK => ?_)); (exact rfl))
 | ((with_reducible refine AAnyR_quiet 6 rfl rfl ?_ (by decide +kernel) (by decide +kernel) (by decide +kernel) (by decide +kernel) (by (first | exact ⟨_, rfl⟩ | exact ⟨_, by rw [List.append_assoc]; rfl⟩ | exact ⟨_, by simp only [List.append_assoc, List.cons_append, List.nil_append]; rfl⟩ | exact ⟨_, by rw [hp_setj, List.append_assoc]; rfl⟩ | exact ⟨_, hp_setj _ _ _ _⟩ | exact ⟨[], (List.append_nil _).symm⟩)) (fun K hK => ?_)); (exact rfl))
 | ((with_reducible refine AAnyR_quiet 7 rfl rfl ?_ (by decide +kernel) (by decide +kernel) (by decide +kernel) (by decide +kernel) (by (first | exact ⟨_, rfl⟩ | exact ⟨_, by rw [List.append_assoc]; rfl⟩ | exact ⟨_, by simp only [List.append_assoc, List.cons_append, List.nil_append]; rfl⟩ | exact ⟨_, by rw [hp_setj, List.append_assoc]; rfl⟩ | exact ⟨_, hp_setj _ _ _ _⟩ | exact ⟨[], (List.append_nil _).symm⟩)) (fun K hK => ?_)); (exact rfl))
 | (with_reducible refine AAnyR_step 5 [9] (by decide +kernel) ?_)
 | (with_reducible refine AAnyR_step 8 [9] (by decide +kernel) ?_)
 | (with_reducible refine AAnyR_step 8 [10] (by decide +kernel) ?_)
 | (with_reducible refine AAnyR_step 5 [] (by decide +kernel) ?_)
 | (with_reducible refine AAnyR_step 8 [] (by decide +kernel) ?_)
 | (with_reducible refine AAnyR_step 9 [] (by decide +kernel) ?_)
 | (with_reducible refine AAnyR_step 10 [] (by decide +kernel) ?_)
 | (with_reducible refine AAnyR_step 11 [] (by decide +kernel) ?_)
 | ((with_reducible refine AAllR_res (i := 9) (H.length) 9 ?_ rfl ?_ (fun K hK => ?_) ?_); (exact rfl); (exact rfl))
 | ((with_reducible show RK _ _ _ _ _ _); (try simp only [List.append_assoc, List.cons_append, List.nil_append, hp_setj, List.set_cons_succ, List.set_cons_zero]); refine RK_intro _ (by first | exact List.append_assoc _ _ _ | rfl) (by first | exact (hp_getj _ _ _).trans rfl | exact (hp_get0 _ _).trans rfl) rfl rfl (by first | exact (fun c hc => (scal_int _ _ c hc).2) | (intro c hc; simp only [List.mem_cons, List.not_mem_nil, or_false] at hc; (try (rcases hc with rfl | rfl | rfl | rfl | rfl)) <;> first | exact trivial | (subst hc; exact trivial) | (cases hc; done))) (by first | exact ⟨_, _, rfl, by simp, Or.inl rfl⟩ | exact ⟨_, _, rfl, by simp, Or.inr ⟨_, rfl⟩⟩) ?_; simp only [hp_setj, hp_set0, List.set_cons_succ, List.set_cons_zero, List.getD_cons_succ, List.getD_cons_zero, reloc]; refine ⟨Or.inr (fun _ => by (first | exact ⟨_, rfl⟩ | exact ⟨_, by rw [List.append_assoc]; rfl⟩ | exact ⟨_, by simp only [List.append_assoc, List.cons_append, List.nil_append]; rfl⟩ | exact ⟨_, by rw [hp_setj, List.append_assoc]; rfl⟩ | exact ⟨_, hp_setj _ _ _ _⟩ | exact ⟨[], (List.append_nil _).symm⟩)), ?_⟩)
 | ((with_reducible refine AAllR_cons ?_ rfl (fun K hK => ?_) ?_); (exact rfl))
 | (with_reducible exact AAllR_nil)
 | ((with_reducible show thenA _ _ _ _ _); simp only [thenA, blockA, if_true, if_false, reduceIte])
 | ((with_reducible show blockA _ _ _ _ _); simp only [thenA, blockA, if_true, if_false, reduceIte, Nat.reduceEqDiff, reduceCtorEq])
 | (with_reducible refine AOps_cons (fun K hK => ?_))
 | (with_reducible refine AQOps_cons (fun K hK => ?_))
 | ((with_reducible refine AQOps_nil ?_); try simp only [thenA, blockA, if_true, if_false, reduceIte, Nat.reduceEqDiff, reduceCtorEq])
 | ((with_reducible refine AOps_nil ?_); try simp only [thenA, blockA, if_true, if_false, reduceIte, Nat.reduceEqDiff, reduceCtorEq])
 | (with_reducible refine AW_block ?_)
 | ((first | (with_reducible refine AW_ret ?_) | (with_reducible refine AW_skip ?_) | (with_reducible refine AW_exit ?_)); try simp only [thenA, blockA, if_true, if_false, reduceIte, Nat.reduceEqDiff, reduceCtorEq])
 | ((with_reducible show AW _ _ (.cond _ _ _) _ _ _); refine AW_cond rfl (fun hg => ?_) (fun hg => ?_) <;> first | (exfalso; simp only [reduceCtorEq] at hg; done) | ((try simp only [Bool.not_eq_true', Bool.not_eq_false', decide_eq_true_eq, decide_eq_false_iff_not] at hg); try (exfalso; omega)))
 | ((with_reducible show _ ∧ _); refine And.intro (fun hg => ?_) (fun hg => ?_) <;> (try simp only [Bool.not_eq_true', Bool.not_eq_false'] at hg) <;> simp only [hg] <;> (try simp only [decide_eq_true_eq, decide_eq_false_iff_not] at hg) <;> (try (exfalso; omega)))
 | ((first | (with_reducible apply FunH_intro) | (with_reducible apply AQ_intro)); (first | ((with_reducible show FunH _ 7 _ _ _); exact hpf _)))
 | (clear hK K)
        | fail)
      have hI2 := hI.put hp
      have hX4 := lt_ofI hS.pu
      have hS1 := (hS.app [(⟨1, false, 28, 2, [.int .i64 s, .sl (H.length + 1) 0 0 64 none]⟩ : AO), ⟨0, false, 2, 1, out.map (LV.int .i64)⟩]).setB (A' := H.length + 1) (va' := 0) (cs' := out) ((hp_getj _ _ _).trans rfl) (by omega)
      obtain ⟨A2, hA2⟩ : ∃ A2, H.length + 1 = A2 := ⟨_, rfl⟩
      rw [hA2] at hS1
      simp only [hA2]
      obtain ⟨X1, hX1⟩ : ∃ X1, (H ++ [(⟨1, false, 28, 2, [.int .i64 s, .sl A2 0 0 64 none]⟩ : AO), ⟨0, false, 2, 1, out.map (LV.int .i64)⟩]).set (H0.length + 2) ⟨1, false, 28, 2, [.int .i64 s, .sl A2 0 0 64 none]⟩ = X1 := ⟨_, rfl⟩
      rw [hX1] at hS1 ⊢
      clear hX1 hS hrk hrc hpf
      have hrk := hS1.rk hkl
      have hplm : (put.map (LV.int .i64)).length = put.length := List.length_map ..
      have oP : ∀ L : Hp, (X1 ++ L)[H0.length + 3]? = some ⟨v, false, 2, 1, put.map (LV.int .i64)⟩ := at_appI hS1.pu
      have hap := fun (L : Hp) => aapp1 (el := 2) (id := H0.length + 3) (ver := v) (H := X1 ++ L) (x := LV.int .i64 k) hplm (int_cells put) (by omega)
      repeat' (first
 | ((with_reducible refine hK _ _ ?_); clear hK K)
 | ((first | (with_reducible show AOp _ _ _ _ _ _ _)); simp (disch := first | ((with_reducible show liveO _ _ _ = true); first | assumption | (exact hS.lB) | (exact liveO_setS (by assumption)) | (exact PtL.live (by assumption)) | (exact PtL.liveA (by assumption) _) | (simp only [go_sem]; done)) | omega | assumption | rfl | (simp only [go_sem]; first | done | omega)) only [go_sem, reduceIte, reduceCtorEq, Nat.reduceAdd, Nat.reduceMul, Nat.reduceSub, Nat.reduceLeDiff, Nat.lt_irrefl, Nat.reduceLT, Nat.reduceEqDiff, Nat.reduceBEq, Int.reduceLE, Int.reduceLT, Int.reduceToNat, w64, eq_self, hrk.idxm, hrk.ldm, hkl, hk, oP, hplm, hap])
 | (with_reducible refine AW_seq (fun K hK => ?_))
 | (with_reducible refine AW_region tyOk ?_)
 | (with_reducible refine AOps_cons (fun K hK => ?_))
 | ((with_reducible refine AOps_nil ?_); try simp only [thenA, blockA, if_true, if_false, reduceIte, Nat.reduceEqDiff, reduceCtorEq])
 | (with_reducible refine AW_block ?_)
 | ((first | (with_reducible refine AW_ret ?_) | (with_reducible refine AW_skip ?_) | (with_reducible refine AW_exit ?_)); try simp only [thenA, blockA, if_true, if_false, reduceIte, Nat.reduceEqDiff, reduceCtorEq])
 | ((with_reducible show AW _ _ (.cond _ _ _) _ _ _); refine AW_cond rfl (fun hg => ?_) (fun hg => ?_) <;> first | (exfalso; simp only [reduceCtorEq] at hg; done) | ((try simp only [Bool.not_eq_true', Bool.not_eq_false', decide_eq_true_eq, decide_eq_false_iff_not] at hg); try (exfalso; omega)))
 | ((with_reducible show _ ∧ _); refine And.intro (fun hg => ?_) (fun hg => ?_) <;> (try simp only [Bool.not_eq_true', Bool.not_eq_false'] at hg) <;> simp only [hg] <;> (try simp only [decide_eq_true_eq, decide_eq_false_iff_not] at hg) <;> (try (exfalso; omega)))
 | (clear hK K)
        | fail)
      have hS2 := (hS1.app [(⟨0, false, 2, 1, [.int .i64 k]⟩ : AO)]).push k
      obtain ⟨X2, hX2⟩ : ∃ X2, (X1 ++ [(⟨0, false, 2, 1, [.int .i64 k]⟩ : AO)]).set (H0.length + 3) ⟨v + 1, false, 2, 1, put.map (LV.int .i64) ++ [.int .i64 k]⟩ = X2 := ⟨_, rfl⟩
      rw [hX2] at hS2 ⊢
      clear hX2 oP hap hS1 hrk
      have hp2 : (put ++ [k]).length = put.length + 1 := by simp
      have hps2 : ∀ x ∈ put ++ [k], x ∈ ks := fun x hx => by
        rcases List.mem_append.1 hx with h1 | h1
        · exact hps x h1
        · rw [List.mem_singleton.1 h1]; exact hkm
      have hrp := hS2.rp
      have hrc := hS2.rc hol
      rw [hp2] at hrp
      have hS := hS2
      refine AW_loopV [4, 11, 12, 13, 75, 76, 77, 78, 79, 80, 81, 82, 83, 84, 85, 86, 87, 88, 89, 90, 91, 92, 93, 94, 95] (fun j : Nat => [(11, .int .i64 (j : Nat))]) (fun _ => X2) (fun j => j ≤ put.length + 1) (fun j => put.length + 1 - j) 0 (Nat.zero_le _) ?_ rfl ?_
      · simp only [junkAll, setAll, List.foldl_cons, List.foldl_nil, List.set_cons_succ, List.set_cons_zero, JL, true_or, or_true, and_true, true_and, reduceCtorEq, false_or, or_false, LV.int.injEq, LV.bool.injEq, LV.flt.injEq, LV.sl.injEq, LV.ptr.injEq, eq_self, Int.natCast_add, Int.natCast_one, Int.natCast_zero, Int.ofNat_zero]
      intro j hj K hK
      simp only [junkAll, setAll, List.foldl_cons, List.foldl_nil, List.set_cons_succ, List.set_cons_zero]
      by_cases hjp : j < put.length + 1
      · have hjm : ix (put ++ [k]) j ∈ put ++ [k] := ix_mem _ j (by omega)
        obtain ⟨w, hw⟩ := hI2.has (hkB _ (hps2 _ hjm)) hjm
        have hif := iInFingers_c s _ out (ix (put ++ [k]) j) X2 hrc (by omega) hI2.ok (hkB _ (hps2 _ hjm))
        rw [hw] at hif
        simp only [Option.isSome_some] at hif
        repeat' (first
 | ((with_reducible refine hK _ _ ?_); clear hK K)
 | ((with_reducible refine hK _ ?_); clear hK K; try simp only [])
 | ((first | (with_reducible show AOp _ _ _ _ _ _ _) | (with_reducible show AQOp _ _ _ _ _ _ _)); simp (disch := first | ((with_reducible show liveO _ _ _ = true); first | assumption | (exact hS.lB) | (exact liveO_setS (by assumption)) | (exact PtL.live (by assumption)) | (exact PtL.liveA (by assumption) _) | (simp only [go_sem]; done)) | omega | assumption | rfl | (simp only [go_sem]; first | done | omega)) only [go_sem, reduceIte, reduceCtorEq, Nat.reduceAdd, Nat.reduceMul, Nat.reduceSub, Nat.reduceLeDiff, Nat.lt_irrefl, Nat.reduceLT, Nat.reduceEqDiff, Nat.reduceBEq, Int.reduceLE, Int.reduceLT, Int.reduceToNat, w64, eq_self, hS.gB0, hrp.idxm, hrp.ldm, hp2])
 | (with_reducible refine AW_seq (fun K hK => ?_))
 | (with_reducible refine AW_region tyOk ?_)
 | ((with_reducible refine AW_quiet (id := 18) tyOk ?_ ?_ ?_); (kernel_rfl); (kernel_rfl))
 | (with_reducible refine AOps_cons (fun K hK => ?_))
 | (with_reducible refine AQOps_cons (fun K hK => ?_))
 | ((with_reducible refine AQOps_nil ?_); try simp only [thenA, blockA, if_true, if_false, reduceIte, Nat.reduceEqDiff, reduceCtorEq])
 | ((with_reducible refine AOps_nil ?_); try simp only [thenA, blockA, if_true, if_false, reduceIte, Nat.reduceEqDiff, reduceCtorEq])
 | (with_reducible refine AW_block ?_)
 | ((first | (with_reducible refine AW_ret ?_) | (with_reducible refine AW_skip ?_) | (with_reducible refine AW_exit ?_)); try simp only [thenA, blockA, if_true, if_false, reduceIte, Nat.reduceEqDiff, reduceCtorEq])
 | ((with_reducible show AW _ _ (.cond _ _ _) _ _ _); refine AW_cond rfl (fun hg => ?_) (fun hg => ?_) <;> first | (exfalso; simp only [reduceCtorEq] at hg; done) | ((try simp only [Bool.not_eq_true', Bool.not_eq_false', decide_eq_true_eq, decide_eq_false_iff_not] at hg); try (exfalso; omega)))
 | ((with_reducible show _ ∧ _); refine And.intro (fun hg => ?_) (fun hg => ?_) <;> (try simp only [Bool.not_eq_true', Bool.not_eq_false'] at hg) <;> simp only [hg] <;> (try simp only [decide_eq_true_eq, decide_eq_false_iff_not] at hg) <;> (try (exfalso; omega)))
 | ((first | (with_reducible apply FunH_intro) | (with_reducible apply AQ_intro)); (first | ((with_reducible show FunH _ 8 _ _ _); exact hif)))
 | (clear hK K)
          | fail)
        refine hK _ _ (j + 1) (by omega) (by omega) ?_ rfl
        simp only [junkAll, setAll, List.foldl_cons, List.foldl_nil, List.set_cons_succ, List.set_cons_zero, JL, true_or, or_true, and_true, true_and, reduceCtorEq, false_or, or_false, LV.int.injEq, LV.bool.injEq, LV.flt.injEq, LV.sl.injEq, LV.ptr.injEq, eq_self, Int.natCast_add, Int.natCast_one, Int.natCast_zero, Int.ofNat_zero]
      · repeat' (first
 | ((with_reducible refine hK _ _ ?_); clear hK K)
 | ((first | (with_reducible show AOp _ _ _ _ _ _ _)); simp (disch := first | ((with_reducible show liveO _ _ _ = true); first | assumption | (exact hS.lB) | (exact liveO_setS (by assumption)) | (exact PtL.live (by assumption)) | (exact PtL.liveA (by assumption) _) | (simp only [go_sem]; done)) | omega | assumption | rfl | (simp only [go_sem]; first | done | omega)) only [go_sem, reduceIte, reduceCtorEq, Nat.reduceAdd, Nat.reduceMul, Nat.reduceSub, Nat.reduceLeDiff, Nat.lt_irrefl, Nat.reduceLT, Nat.reduceEqDiff, Nat.reduceBEq, Int.reduceLE, Int.reduceLT, Int.reduceToNat, w64, eq_self])
 | (with_reducible refine AW_seq (fun K hK => ?_))
 | (with_reducible refine AW_region tyOk ?_)
 | (with_reducible refine AOps_cons (fun K hK => ?_))
 | ((with_reducible refine AOps_nil ?_); try simp only [thenA, blockA, if_true, if_false, reduceIte, Nat.reduceEqDiff, reduceCtorEq])
 | (with_reducible refine AW_block ?_)
 | ((first | (with_reducible refine AW_ret ?_) | (with_reducible refine AW_skip ?_) | (with_reducible refine AW_exit ?_)); try simp only [thenA, blockA, if_true, if_false, reduceIte, Nat.reduceEqDiff, reduceCtorEq])
 | ((with_reducible show AW _ _ (.cond _ _ _) _ _ _); refine AW_cond rfl (fun hg => ?_) (fun hg => ?_) <;> first | (exfalso; simp only [reduceCtorEq] at hg; done) | ((try simp only [Bool.not_eq_true', Bool.not_eq_false', decide_eq_true_eq, decide_eq_false_iff_not] at hg); try (exfalso; omega)))
 | ((with_reducible show _ ∧ _); refine And.intro (fun hg => ?_) (fun hg => ?_) <;> (try simp only [Bool.not_eq_true', Bool.not_eq_false'] at hg) <;> simp only [hg] <;> (try simp only [decide_eq_true_eq, decide_eq_false_iff_not] at hg) <;> (try (exfalso; omega)))
 | (clear hK K)
          | fail)
        refine hK _ _ (i + 1, X2, (A2, 0, v + 1), out, put ++ [k]) ⟨by simp only; omega, hS, hI2, by simp only; omega, hps2⟩ (by simp only; omega) ?_ rfl
        simp only [junkAll, setAll, List.foldl_cons, List.foldl_nil, List.set_cons_succ, List.set_cons_zero, JL, true_or, or_true, and_true, true_and, reduceCtorEq, false_or, or_false, LV.int.injEq, LV.bool.injEq, LV.flt.injEq, LV.sl.injEq, LV.ptr.injEq, eq_self, Int.natCast_add, Int.natCast_one, Int.natCast_zero, Int.ofNat_zero]
        rw [hp2]
  · have hin2 : n = i := by omega
    clear hrk
    repeat' (first
 | ((with_reducible refine hK _ _ ?_); clear hK K)
 | ((first | (with_reducible show AOp _ _ _ _ _ _ _)); simp (disch := first | ((with_reducible show liveO _ _ _ = true); first | assumption | (exact hS.lB) | (exact liveO_setS (by assumption)) | (exact PtL.live (by assumption)) | (exact PtL.liveA (by assumption) _) | (simp only [go_sem]; done)) | omega | assumption | rfl | (simp only [go_sem]; first | done | omega)) only [go_sem, reduceIte, reduceCtorEq, Nat.reduceAdd, Nat.reduceMul, Nat.reduceSub, Nat.reduceLeDiff, Nat.lt_irrefl, Nat.reduceLT, Nat.reduceEqDiff, Nat.reduceBEq, Int.reduceLE, Int.reduceLT, Int.reduceToNat, w64, eq_self, hkl])
 | (with_reducible refine AW_seq (fun K hK => ?_))
 | (with_reducible refine AW_region tyOk ?_)
 | (with_reducible refine AOps_cons (fun K hK => ?_))
 | ((with_reducible refine AOps_nil ?_); try simp only [thenA, blockA, if_true, if_false, reduceIte, Nat.reduceEqDiff, reduceCtorEq])
 | (with_reducible refine AW_block ?_)
 | ((first | (with_reducible refine AW_ret ?_) | (with_reducible refine AW_skip ?_) | (with_reducible refine AW_exit ?_)); try simp only [thenA, blockA, if_true, if_false, reduceIte, Nat.reduceEqDiff, reduceCtorEq])
 | ((with_reducible show AW _ _ (.cond _ _ _) _ _ _); refine AW_cond rfl (fun hg => ?_) (fun hg => ?_) <;> first | (exfalso; simp only [reduceCtorEq] at hg; done) | ((try simp only [Bool.not_eq_true', Bool.not_eq_false', decide_eq_true_eq, decide_eq_false_iff_not] at hg); try (exfalso; omega)))
 | ((with_reducible show _ ∧ _); refine And.intro (fun hg => ?_) (fun hg => ?_) <;> (try simp only [Bool.not_eq_true', Bool.not_eq_false'] at hg) <;> simp only [hg] <;> (try simp only [decide_eq_true_eq, decide_eq_false_iff_not] at hg) <;> (try (exfalso; omega)))
 | (clear hK K)
      | fail)
    have gB1 := fun o => hget_atI (off := o) hS.bx
    have hcb := hI.cells
    refine AW_loopV [14, 15, 96, 97, 98, 99, 100, 101, 102, 103, 104, 105, 106, 107, 108, 109, 110] (fun j : Nat => [(14, .int .i64 (((cs.take j).countP fun v => !(v == 0) : Nat) : Int)), (15, .int .i64 (j : Nat))]) (fun _ => H) (fun j => j ≤ 64) (fun j => 64 - j) 0 (Nat.zero_le _) ?_ rfl ?_
    · simp only [junkAll, setAll, List.foldl_cons, List.foldl_nil, List.set_cons_succ, List.set_cons_zero, JL, true_or, or_true, and_true, true_and, reduceCtorEq, false_or, or_false, LV.int.injEq, LV.bool.injEq, LV.flt.injEq, LV.sl.injEq, LV.ptr.injEq, eq_self, Int.natCast_add, Int.natCast_one, Int.natCast_zero, Int.ofNat_zero]; rfl
    · intro j hj K hK
      simp only [junkAll, setAll, List.foldl_cons, List.foldl_nil, List.set_cons_succ, List.set_cons_zero]
      by_cases hj64 : j < 64
      · have hst : (cs.take (j + 1)).countP (fun v => !(v == 0)) = (cs.take j).countP (fun v => !(v == 0)) + if ix cs j = 0 then 0 else 1 := by
          rw [take_ix _ _ (by omega), List.countP_append, List.countP_singleton]
          by_cases e : ix cs j = 0 <;> simp [e]
        by_cases e : ix cs j = 0
        · rw [if_pos e, Nat.add_zero] at hst
          have hne : ((ix cs j) != 0) = false := by simp [e]
          repeat' (first
 | ((with_reducible refine hK _ _ ?_); clear hK K)
 | ((first | (with_reducible show AOp _ _ _ _ _ _ _)); simp (disch := first | ((with_reducible show liveO _ _ _ = true); first | assumption | (exact hS.lB) | (exact liveO_setS (by assumption)) | (exact PtL.live (by assumption)) | (exact PtL.liveA (by assumption) _) | (simp only [go_sem]; done)) | omega | assumption | rfl | (simp only [go_sem]; first | done | omega)) only [go_sem, reduceIte, reduceCtorEq, Nat.reduceAdd, Nat.reduceMul, Nat.reduceSub, Nat.reduceLeDiff, Nat.lt_irrefl, Nat.reduceLT, Nat.reduceEqDiff, Nat.reduceBEq, Int.reduceLE, Int.reduceLT, Int.reduceToNat, w64, eq_self, gB1, hrc.idxm, hrc.ldm, hcl, hne])
 | (with_reducible refine AW_seq (fun K hK => ?_))
 | (with_reducible refine AW_region tyOk ?_)
 | (with_reducible refine AOps_cons (fun K hK => ?_))
 | ((with_reducible refine AOps_nil ?_); try simp only [thenA, blockA, if_true, if_false, reduceIte, Nat.reduceEqDiff, reduceCtorEq])
 | (with_reducible refine AW_block ?_)
 | ((first | (with_reducible refine AW_ret ?_) | (with_reducible refine AW_skip ?_) | (with_reducible refine AW_exit ?_)); try simp only [thenA, blockA, if_true, if_false, reduceIte, Nat.reduceEqDiff, reduceCtorEq])
 | ((with_reducible show AW _ _ (.cond _ _ _) _ _ _); refine AW_cond rfl (fun hg => ?_) (fun hg => ?_) <;> first | (exfalso; simp only [reduceCtorEq] at hg; done) | ((try simp only [Bool.not_eq_true', Bool.not_eq_false', decide_eq_true_eq, decide_eq_false_iff_not] at hg); try (exfalso; omega)))
 | ((with_reducible show _ ∧ _); refine And.intro (fun hg => ?_) (fun hg => ?_) <;> (try simp only [Bool.not_eq_true', Bool.not_eq_false'] at hg) <;> simp only [hg] <;> (try simp only [decide_eq_true_eq, decide_eq_false_iff_not] at hg) <;> (try (exfalso; omega)))
 | (clear hK K)
            | fail)
          refine hK _ _ (j + 1) (by omega) (by omega) ?_ rfl
          simp only [junkAll, setAll, List.foldl_cons, List.foldl_nil, List.set_cons_succ, List.set_cons_zero, JL, true_or, or_true, and_true, true_and, reduceCtorEq, false_or, or_false, LV.int.injEq, LV.bool.injEq, LV.flt.injEq, LV.sl.injEq, LV.ptr.injEq, eq_self, Int.natCast_add, Int.natCast_one, Int.natCast_zero, Int.ofNat_zero]; rw [hst]; rfl
        · rw [if_neg e] at hst
          have hne : ((ix cs j) != 0) = true := by simp [e]
          have hcw : (cs.take j).countP (fun v => !(v == 0)) ≤ j := Nat.le_trans List.countP_le_length (by rw [List.length_take]; omega)
          repeat' (first
 | ((with_reducible refine hK _ _ ?_); clear hK K)
 | ((first | (with_reducible show AOp _ _ _ _ _ _ _)); simp (disch := first | ((with_reducible show liveO _ _ _ = true); first | assumption | (exact hS.lB) | (exact liveO_setS (by assumption)) | (exact PtL.live (by assumption)) | (exact PtL.liveA (by assumption) _) | (simp only [go_sem]; done)) | omega | assumption | rfl | (simp only [go_sem]; first | done | omega)) only [go_sem, reduceIte, reduceCtorEq, Nat.reduceAdd, Nat.reduceMul, Nat.reduceSub, Nat.reduceLeDiff, Nat.lt_irrefl, Nat.reduceLT, Nat.reduceEqDiff, Nat.reduceBEq, Int.reduceLE, Int.reduceLT, Int.reduceToNat, w64, eq_self, gB1, hrc.idxm, hrc.ldm, hcl, hne])
 | (with_reducible refine AW_seq (fun K hK => ?_))
 | (with_reducible refine AW_region tyOk ?_)
 | (with_reducible refine AOps_cons (fun K hK => ?_))
 | ((with_reducible refine AOps_nil ?_); try simp only [thenA, blockA, if_true, if_false, reduceIte, Nat.reduceEqDiff, reduceCtorEq])
 | (with_reducible refine AW_block ?_)
 | ((first | (with_reducible refine AW_ret ?_) | (with_reducible refine AW_skip ?_) | (with_reducible refine AW_exit ?_)); try simp only [thenA, blockA, if_true, if_false, reduceIte, Nat.reduceEqDiff, reduceCtorEq])
 | ((with_reducible show AW _ _ (.cond _ _ _) _ _ _); refine AW_cond rfl (fun hg => ?_) (fun hg => ?_) <;> first | (exfalso; simp only [reduceCtorEq] at hg; done) | ((try simp only [Bool.not_eq_true', Bool.not_eq_false', decide_eq_true_eq, decide_eq_false_iff_not] at hg); try (exfalso; omega)))
 | ((with_reducible show _ ∧ _); refine And.intro (fun hg => ?_) (fun hg => ?_) <;> (try simp only [Bool.not_eq_true', Bool.not_eq_false'] at hg) <;> simp only [hg] <;> (try simp only [decide_eq_true_eq, decide_eq_false_iff_not] at hg) <;> (try (exfalso; omega)))
 | (clear hK K)
            | fail)
          refine hK _ _ (j + 1) (by omega) (by omega) ?_ rfl
          simp only [junkAll, setAll, List.foldl_cons, List.foldl_nil, List.set_cons_succ, List.set_cons_zero, JL, true_or, or_true, and_true, true_and, reduceCtorEq, false_or, or_false, LV.int.injEq, LV.bool.injEq, LV.flt.injEq, LV.sl.injEq, LV.ptr.injEq, eq_self, Int.natCast_add, Int.natCast_one, Int.natCast_zero, Int.ofNat_zero]; rw [hst]; omega
      · have hj2 : j = 64 := by omega
        have hcn : (cs.take j).countP (fun v => !(v == 0)) = put.length := by
          rw [hj2, List.take_of_length_le (by omega), ← fgL_len s 32 cs 0, hI.perm.length_eq, List.length_map]
        rw [hcn]
        have hpe : (((put.length : Nat) : Int) != ((put.length : Nat) : Int)) = false := by simp
        repeat' (first
 | ((with_reducible refine hK _ _ ?_); clear hK K)
 | ((first | (with_reducible show AOp _ _ _ _ _ _ _)); simp (disch := first | ((with_reducible show liveO _ _ _ = true); first | assumption | (exact hS.lB) | (exact liveO_setS (by assumption)) | (exact PtL.live (by assumption)) | (exact PtL.liveA (by assumption) _) | (simp only [go_sem]; done)) | omega | assumption | rfl | (simp only [go_sem]; first | done | omega)) only [go_sem, reduceIte, reduceCtorEq, Nat.reduceAdd, Nat.reduceMul, Nat.reduceSub, Nat.reduceLeDiff, Nat.lt_irrefl, Nat.reduceLT, Nat.reduceEqDiff, Nat.reduceBEq, Int.reduceLE, Int.reduceLT, Int.reduceToNat, w64, eq_self, gB1, hS.gB0, hpe, hI.ok])
 | (with_reducible refine AW_seq (fun K hK => ?_))
 | (with_reducible refine AW_region tyOk ?_)
 | (with_reducible refine AOps_cons (fun K hK => ?_))
 | ((with_reducible refine AOps_nil ?_); try simp only [thenA, blockA, if_true, if_false, reduceIte, Nat.reduceEqDiff, reduceCtorEq])
 | (with_reducible refine AW_block ?_)
 | ((first | (with_reducible refine AW_ret ?_) | (with_reducible refine AW_skip ?_) | (with_reducible refine AW_exit ?_)); try simp only [thenA, blockA, if_true, if_false, reduceIte, Nat.reduceEqDiff, reduceCtorEq])
 | ((with_reducible show AW _ _ (.cond _ _ _) _ _ _); refine AW_cond rfl (fun hg => ?_) (fun hg => ?_) <;> first | (exfalso; simp only [reduceCtorEq] at hg; done) | ((try simp only [Bool.not_eq_true', Bool.not_eq_false', decide_eq_true_eq, decide_eq_false_iff_not] at hg); try (exfalso; omega)))
 | ((with_reducible show _ ∧ _); refine And.intro (fun hg => ?_) (fun hg => ?_) <;> (try simp only [Bool.not_eq_true', Bool.not_eq_false'] at hg) <;> simp only [hg] <;> (try simp only [decide_eq_true_eq, decide_eq_false_iff_not] at hg) <;> (try (exfalso; omega)))
 | ((with_reducible apply FunH_intro); (first | ((with_reducible show FunH _ 9 _ _ _); exact iValidFingers_c s _ cs H hrc (by omega))))
 | (clear hK K)
          | fail)
        clear hcn hpe hcb gB1 hrc hj2
        refine AW_loopV [4, 16, 17, 18, 120, 121, 122, 123, 124, 125, 126, 127, 128, 129, 130, 131, 132, 133, 134, 135, 136, 137] (fun p : Nat × Hp × (Nat × Nat) × List Int => [(16, .int .i64 (p.1 : Nat))]) (fun p => p.2.1) (fun p => p.1 ≤ put.length ∧ FS H0 p.2.1 ks s p.2.2.1.1 p.2.2.1.2 v p.2.2.2 put ∧ fgI s 32 p.2.2.2 (put.drop p.1)) (fun p => put.length - p.1) (0, H, (A, va), cs) ⟨Nat.zero_le _, hS, by rw [List.drop_zero]; exact hI⟩ ?_ rfl ?_
        · simp only [junkAll, setAll, List.foldl_cons, List.foldl_nil, List.set_cons_succ, List.set_cons_zero, JL, true_or, or_true, and_true, true_and, reduceCtorEq, false_or, or_false, LV.int.injEq, LV.bool.injEq, LV.flt.injEq, LV.sl.injEq, LV.ptr.injEq, eq_self, Int.natCast_add, Int.natCast_one, Int.natCast_zero, Int.ofNat_zero]
        clear hS hI hcl
        intro ⟨j, H, ⟨A, va⟩, cs⟩ ⟨hj, hS, hI⟩ K hK
        simp only at hj hS hI
        have hrp := hS.rp
        have hcl : cs.length = 64 := hI.len
        have hrc := hS.rc hcl
        simp only [junkAll, setAll, List.foldl_cons, List.foldl_nil, List.set_cons_succ, List.set_cons_zero]
        by_cases hjp : j < put.length
        · obtain ⟨k, hk⟩ : ∃ k, ix put j = k := ⟨_, rfl⟩
          have hkm : k ∈ ks := by rw [← hk]; exact hps _ (ix_mem put j hjp)
          have hdr : put.drop j = k :: put.drop (j + 1) := by rw [← hk, ix_eq _ _ hjp]; exact List.drop_eq_getElem_cons hjp
          rw [hdr] at hI
          obtain ⟨out, hp⟩ := hI.has (hkB k hkm) (List.mem_cons_self ..)
          have hI2 := hI.out hp
          have hol : out.length = 64 := hI2.len
          have hof := fun o : AO => iOutFinger_c s _ cs k (H ++ [o]) (hrc.app _) (by omega)
          simp only [List.length_append, List.length_cons, List.length_nil, Nat.zero_add, List.append_assoc, List.cons_append, List.nil_append] at hof
          rw [hp] at hof
          simp only [Option.isSome_some, Option.getD_some, if_true, reduceIte, hol] at hof
          repeat' (first
 | ((with_reducible refine hK _ _ ?_); clear hK K)
 | ((with_reducible refine hK _ ?_); clear hK K; try simp only [])
 | ((with_reducible refine hK _ _ ?_ ?_); (first | exact Or.inl rfl | exact Or.inr (fun _ => by (first | exact ⟨_, rfl⟩ | exact ⟨_, by rw [List.append_assoc]; rfl⟩ | exact ⟨_, by simp only [List.append_assoc, List.cons_append, List.nil_append]; rfl⟩ | exact ⟨_, by rw [hp_setj, List.append_assoc]; rfl⟩ | exact ⟨_, hp_setj _ _ _ _⟩ | exact ⟨[], (List.append_nil _).symm⟩))); clear hK K)
 | ((first | (with_reducible show AOp _ _ _ _ _ _ _) | (with_reducible show AQOp _ _ _ _ _ _ _)); simp (disch := first | ((with_reducible show liveO _ _ _ = true); first | assumption | (exact hS.lB) | (exact liveO_setS (by assumption)) | (exact PtL.live (by assumption)) | (exact PtL.liveA (by assumption) _) | (simp only [go_sem]; done)) | omega | assumption | rfl | (simp only [go_sem]; first | done | omega)) only [go_sem, reduceIte, reduceCtorEq, Nat.reduceAdd, Nat.reduceMul, Nat.reduceSub, Nat.reduceLeDiff, Nat.lt_irrefl, Nat.reduceLT, Nat.reduceEqDiff, Nat.reduceBEq, Int.reduceLE, Int.reduceLT, Int.reduceToNat, w64, eq_self, hS.gB, hS.gB0, hrp.idxm, hrp.ldm, hrp.idxmA, hrp.ldmA, hk, hS.pB])
 | (with_reducible refine AW_seq (fun K hK => ?_))
 | (with_reducible refine AW_region tyOk ?_)
 | ((with_reducible apply AW_treeV (id := 32) tyOk 12 [(9, H.length)] [(28, 2)] [10, 11]); (kernel_rfl); (exact rfl); simp only [List.map_cons, List.map_nil, List.append_assoc, List.cons_append, List.nil_append])
 | ((with_reducible refine AAnyR_leaf (by decide +kernel) ?_); (with_reducible exact Wk.refl))
 | ((with_reducible refine AAnyR_quiet 0 rfl rfl ?_ (by decide +kernel) (by decide +kernel) (by decide +kernel) (by decide +kernel) (by (first | exact ⟨_, rfl⟩ | exact ⟨_, by rw [List.append_assoc]; rfl⟩ | exact ⟨_, by simp only [List.append_assoc, List.cons_append, List.nil_append]; rfl⟩ | exact ⟨_, by rw [hp_setj, List.append_assoc]; rfl⟩ | exact ⟨_, hp_setj _ _ _ _⟩ | exact ⟨[], (List.append_nil _).symm⟩)) (fun K hK => ?_)); (exact rfl))
 | ((with_reducible refine AAnyR_quiet 1 rfl rfl ?_ (by decide +kernel) (by decide +kernel) (by decide +kernel) (by decide +kernel) (by (first | exact ⟨_, rfl⟩ | exact ⟨_, by rw [List.append_assoc]; rfl⟩ | exact ⟨_, by simp only [List.append_assoc, List.cons_append, List.nil_append]; rfl⟩ | exact ⟨_, by rw [hp_setj, List.append_assoc]; rfl⟩ | exact ⟨_, hp_setj _ _ _ _⟩ | exact ⟨[], (List.append_nil _).symm⟩)) (fun K hK => ?_)); (exact rfl))
 | ((with_reducible refine AAnyR_quiet 2 rfl rfl ?_ (by decide +kernel) (by decide +kernel) (by decide +kernel) (by decide +kernel) (by (first | exact ⟨_, rfl⟩ | exact ⟨_, by rw [List.append_assoc]; rfl⟩ | exact ⟨_, by simp only [List.append_assoc, List.cons_append, List.nil_append]; rfl⟩ | exact ⟨_, by rw [hp_setj, List.append_assoc]; rfl⟩ | exact ⟨_, hp_setj _ _ _ _⟩ | exact ⟨[], (List.append_nil _).symm⟩)) (fun K hK => ?_)); (exact rfl))
 | ((with_reducible refine AAnyR_quiet 3 rfl rfl ?_ (by decide +kernel) (by decide +kernel) (by decide +kernel) (by decide +kernel) (by (first | exact ⟨_, rfl⟩ | exact ⟨_, by rw [List.append_assoc]; rfl⟩ | exact ⟨_, by simp only [List.append_assoc, List.cons_append, List.nil_append]; rfl⟩ | exact ⟨_, by rw [hp_setj, List.append_assoc]; rfl⟩ | exact ⟨_, hp_setj _ _ _ _⟩ | exact ⟨[], (List.append_nil _).symm⟩)) (fun K hK => ?_)); (exact rfl))
 | ((with_reducible refine AAnyR_quiet 4 rfl rfl ?_ (by decide +kernel) (by decide +kernel) (by decide +kernel) (by decide +kernel) (by (first | exact ⟨_, rfl⟩ | exact ⟨_, by rw [List.append_assoc]; rfl⟩ | exact ⟨_, by simp only [List.append_assoc, List.cons_append, List.nil_append]; rfl⟩ | exact ⟨_, by rw [hp_setj, List.append_assoc]; rfl⟩ | exact ⟨_, hp_setj _ _ _ _⟩ | exact ⟨[], (List.append_nil _).symm⟩)) (fun K hK => ?_)); (exact rfl))
 | ((with_reducible refine AAnyR_quiet 6 rfl rfl ?_ (by decide +kernel) (by decide +kernel) (by decide +kernel) (by decide +kernel) (by (first | exact ⟨_, rfl⟩ | exact ⟨_, by rw [List.append_assoc]; rfl⟩ | exact ⟨_, by simp only [List.append_assoc, List.cons_append, List.nil_append]; rfl⟩ | exact ⟨_, by rw [hp_setj, List.append_assoc]; rfl⟩ | exact ⟨_, hp_setj _ _ _ _⟩ | exact ⟨[], (List.append_nil _).symm⟩)) (fun K hK => ?_)); (exact rfl))
 | ((with_reducible refine AAnyR_quiet 7 rfl rfl ?_ (by decide +kernel) (by decide +kernel) (by decide +kernel) (by decide +kernel) (by (first | exact ⟨_, rfl⟩ | exact ⟨_, by rw [List.append_assoc]; rfl⟩ | exact ⟨_, by simp only [List.append_assoc, List.cons_append, List.nil_append]; rfl⟩ | exact ⟨_, by rw [hp_setj, List.append_assoc]; rfl⟩ | exact ⟨_, hp_setj _ _ _ _⟩ | exact ⟨[], (List.append_nil _).symm⟩)) (fun K hK => ?_)); (exact rfl))
 | (with_reducible refine AAnyR_step 5 [9] (by decide +kernel) ?_)
 | (with_reducible refine AAnyR_step 8 [9] (by decide +kernel) ?_)
 | (with_reducible refine AAnyR_step 8 [10] (by decide +kernel) ?_)
 | (with_reducible refine AAnyR_step 5 [] (by decide +kernel) ?_)
 | (with_reducible refine AAnyR_step 8 [] (by decide +kernel) ?_)
 | (with_reducible refine AAnyR_step 9 [] (by decide +kernel) ?_)
 | (with_reducible refine AAnyR_step 10 [] (by decide +kernel) ?_)
 | (with_reducible refine AAnyR_step 11 [] (by decide +kernel) ?_)
 | ((with_reducible refine AAllR_res (i := 9) (H.length) 17 ?_ rfl ?_ (fun K hK => ?_) ?_); (exact rfl); (exact rfl))
 | ((with_reducible show RK _ _ _ _ _ _); (try simp only [List.append_assoc, List.cons_append, List.nil_append, hp_setj, List.set_cons_succ, List.set_cons_zero]); refine RK_intro _ (by first | exact List.append_assoc _ _ _ | rfl) (by first | exact (hp_getj _ _ _).trans rfl | exact (hp_get0 _ _).trans rfl) rfl rfl (by first | exact (fun c hc => (scal_int _ _ c hc).2) | (intro c hc; simp only [List.mem_cons, List.not_mem_nil, or_false] at hc; (try (rcases hc with rfl | rfl | rfl | rfl | rfl)) <;> first | exact trivial | (subst hc; exact trivial) | (cases hc; done))) (by first | exact ⟨_, _, rfl, by simp, Or.inl rfl⟩ | exact ⟨_, _, rfl, by simp, Or.inr ⟨_, rfl⟩⟩) ?_; simp only [hp_setj, hp_set0, List.set_cons_succ, List.set_cons_zero, List.getD_cons_succ, List.getD_cons_zero, reloc]; refine ⟨Or.inr (fun _ => by (first | exact ⟨_, rfl⟩ | exact ⟨_, by rw [List.append_assoc]; rfl⟩ | exact ⟨_, by simp only [List.append_assoc, List.cons_append, List.nil_append]; rfl⟩ | exact ⟨_, by rw [hp_setj, List.append_assoc]; rfl⟩ | exact ⟨_, hp_setj _ _ _ _⟩ | exact ⟨[], (List.append_nil _).symm⟩)), ?_⟩)
 | ((with_reducible refine AAllR_cons ?_ rfl (fun K hK => ?_) ?_); (exact rfl))
 | (with_reducible exact AAllR_nil)
 | ((with_reducible show thenA _ _ _ _ _); simp only [thenA, blockA, if_true, if_false, reduceIte])
 | ((with_reducible show blockA _ _ _ _ _); simp only [thenA, blockA, if_true, if_false, reduceIte, Nat.reduceEqDiff, reduceCtorEq])
 | (with_reducible refine AOps_cons (fun K hK => ?_))
 | (with_reducible refine AQOps_cons (fun K hK => ?_))
 | ((with_reducible refine AQOps_nil ?_); try simp only [thenA, blockA, if_true, if_false, reduceIte, Nat.reduceEqDiff, reduceCtorEq])
 | ((with_reducible refine AOps_nil ?_); try simp only [thenA, blockA, if_true, if_false, reduceIte, Nat.reduceEqDiff, reduceCtorEq])
 | (with_reducible refine AW_block ?_)
 | ((first | (with_reducible refine AW_ret ?_) | (with_reducible refine AW_skip ?_) | (with_reducible refine AW_exit ?_)); try simp only [thenA, blockA, if_true, if_false, reduceIte, Nat.reduceEqDiff, reduceCtorEq])
 | ((with_reducible show AW _ _ (.cond _ _ _) _ _ _); refine AW_cond rfl (fun hg => ?_) (fun hg => ?_) <;> first | (exfalso; simp only [reduceCtorEq] at hg; done) | ((try simp only [Bool.not_eq_true', Bool.not_eq_false', decide_eq_true_eq, decide_eq_false_iff_not] at hg); try (exfalso; omega)))
 | ((with_reducible show _ ∧ _); refine And.intro (fun hg => ?_) (fun hg => ?_) <;> (try simp only [Bool.not_eq_true', Bool.not_eq_false'] at hg) <;> simp only [hg] <;> (try simp only [decide_eq_true_eq, decide_eq_false_iff_not] at hg) <;> (try (exfalso; omega)))
 | ((first | (with_reducible apply FunH_intro) | (with_reducible apply AQ_intro)); (first | ((with_reducible show FunH _ 10 _ _ _); exact hof _)))
 | (clear hK K)
            | fail)
          have hX4 := lt_ofI hS.pu
          have hS1 := (hS.app [(⟨1, false, 28, 2, [.int .i64 s, .sl (H.length + 1) 0 0 64 none]⟩ : AO), ⟨0, false, 2, 1, out.map (LV.int .i64)⟩]).setB (A' := H.length + 1) (va' := 0) (cs' := out) ((hp_getj _ _ _).trans rfl) (by omega)
          refine hK _ _ (j + 1, _, (H.length + 1, 0), out) ⟨by simp only; omega, hS1, hI2⟩ (by simp only; omega) ?_ rfl
          simp only [junkAll, setAll, List.foldl_cons, List.foldl_nil, List.set_cons_succ, List.set_cons_zero, JL, true_or, or_true, and_true, true_and, reduceCtorEq, false_or, or_false, LV.int.injEq, LV.bool.injEq, LV.flt.injEq, LV.sl.injEq, LV.ptr.injEq, eq_self, Int.natCast_add, Int.natCast_one, Int.natCast_zero, Int.ofNat_zero]
        · have hje : j = put.length := by omega
          rw [hje, List.drop_length] at hI
          have hz0 := fgL_nil (List.Perm.eq_nil hI.perm)
          have gB1 := fun o => hget_atI (off := o) hS.bx
          repeat' (first
 | ((with_reducible refine hK _ _ ?_); clear hK K)
 | ((first | (with_reducible show AOp _ _ _ _ _ _ _)); simp (disch := first | ((with_reducible show liveO _ _ _ = true); first | assumption | (exact hS.lB) | (exact liveO_setS (by assumption)) | (exact PtL.live (by assumption)) | (exact PtL.liveA (by assumption) _) | (simp only [go_sem]; done)) | omega | assumption | rfl | (simp only [go_sem]; first | done | omega)) only [go_sem, reduceIte, reduceCtorEq, Nat.reduceAdd, Nat.reduceMul, Nat.reduceSub, Nat.reduceLeDiff, Nat.lt_irrefl, Nat.reduceLT, Nat.reduceEqDiff, Nat.reduceBEq, Int.reduceLE, Int.reduceLT, Int.reduceToNat, w64, eq_self])
 | (with_reducible refine AW_seq (fun K hK => ?_))
 | (with_reducible refine AW_region tyOk ?_)
 | (with_reducible refine AOps_cons (fun K hK => ?_))
 | ((with_reducible refine AOps_nil ?_); try simp only [thenA, blockA, if_true, if_false, reduceIte, Nat.reduceEqDiff, reduceCtorEq])
 | (with_reducible refine AW_block ?_)
 | ((first | (with_reducible refine AW_ret ?_) | (with_reducible refine AW_skip ?_) | (with_reducible refine AW_exit ?_)); try simp only [thenA, blockA, if_true, if_false, reduceIte, Nat.reduceEqDiff, reduceCtorEq])
 | ((with_reducible show AW _ _ (.cond _ _ _) _ _ _); refine AW_cond rfl (fun hg => ?_) (fun hg => ?_) <;> first | (exfalso; simp only [reduceCtorEq] at hg; done) | ((try simp only [Bool.not_eq_true', Bool.not_eq_false', decide_eq_true_eq, decide_eq_false_iff_not] at hg); try (exfalso; omega)))
 | ((with_reducible show _ ∧ _); refine And.intro (fun hg => ?_) (fun hg => ?_) <;> (try simp only [Bool.not_eq_true', Bool.not_eq_false'] at hg) <;> simp only [hg] <;> (try simp only [decide_eq_true_eq, decide_eq_false_iff_not] at hg) <;> (try (exfalso; omega)))
 | (clear hK K)
            | fail)
          refine AW_loopV [4, 19, 138, 139, 140, 141, 142, 143, 144, 145, 146, 147, 148, 149, 150] (fun j : Nat => [(19, .int .i64 (j : Nat))]) (fun _ => H) (fun j => j ≤ 64) (fun j => 64 - j) 0 (Nat.zero_le _) ?_ rfl ?_
          · simp only [junkAll, setAll, List.foldl_cons, List.foldl_nil, List.set_cons_succ, List.set_cons_zero, JL, true_or, or_true, and_true, true_and, reduceCtorEq, false_or, or_false, LV.int.injEq, LV.bool.injEq, LV.flt.injEq, LV.sl.injEq, LV.ptr.injEq, eq_self, Int.natCast_add, Int.natCast_one, Int.natCast_zero, Int.ofNat_zero]
          intro a ha K hK
          simp only [junkAll, setAll, List.foldl_cons, List.foldl_nil, List.set_cons_succ, List.set_cons_zero]
          by_cases ha64 : a < 64
          · have hxz := hz0 _ (ix_mem cs a (by omega))
            have hne : ((0 : Int) != 0) = false := by simp
            repeat' (first
 | ((with_reducible refine hK _ _ ?_); clear hK K)
 | ((first | (with_reducible show AOp _ _ _ _ _ _ _)); simp (disch := first | ((with_reducible show liveO _ _ _ = true); first | assumption | (exact hS.lB) | (exact liveO_setS (by assumption)) | (exact PtL.live (by assumption)) | (exact PtL.liveA (by assumption) _) | (simp only [go_sem]; done)) | omega | assumption | rfl | (simp only [go_sem]; first | done | omega)) only [go_sem, reduceIte, reduceCtorEq, Nat.reduceAdd, Nat.reduceMul, Nat.reduceSub, Nat.reduceLeDiff, Nat.lt_irrefl, Nat.reduceLT, Nat.reduceEqDiff, Nat.reduceBEq, Int.reduceLE, Int.reduceLT, Int.reduceToNat, w64, eq_self, gB1, hrc.idxm, hrc.ldm, hcl, hxz, hne])
 | (with_reducible refine AW_seq (fun K hK => ?_))
 | (with_reducible refine AW_region tyOk ?_)
 | (with_reducible refine AOps_cons (fun K hK => ?_))
 | ((with_reducible refine AOps_nil ?_); try simp only [thenA, blockA, if_true, if_false, reduceIte, Nat.reduceEqDiff, reduceCtorEq])
 | (with_reducible refine AW_block ?_)
 | ((first | (with_reducible refine AW_ret ?_) | (with_reducible refine AW_skip ?_) | (with_reducible refine AW_exit ?_)); try simp only [thenA, blockA, if_true, if_false, reduceIte, Nat.reduceEqDiff, reduceCtorEq])
 | ((with_reducible show AW _ _ (.cond _ _ _) _ _ _); refine AW_cond rfl (fun hg => ?_) (fun hg => ?_) <;> first | (exfalso; simp only [reduceCtorEq] at hg; done) | ((try simp only [Bool.not_eq_true', Bool.not_eq_false', decide_eq_true_eq, decide_eq_false_iff_not] at hg); try (exfalso; omega)))
 | ((with_reducible show _ ∧ _); refine And.intro (fun hg => ?_) (fun hg => ?_) <;> (try simp only [Bool.not_eq_true', Bool.not_eq_false'] at hg) <;> simp only [hg] <;> (try simp only [decide_eq_true_eq, decide_eq_false_iff_not] at hg) <;> (try (exfalso; omega)))
 | (clear hK K)
              | fail)
            refine hK _ _ (a + 1) (by omega) (by omega) ?_ rfl
            simp only [junkAll, setAll, List.foldl_cons, List.foldl_nil, List.set_cons_succ, List.set_cons_zero, JL, true_or, or_true, and_true, true_and, reduceCtorEq, false_or, or_false, LV.int.injEq, LV.bool.injEq, LV.flt.injEq, LV.sl.injEq, LV.ptr.injEq, eq_self, Int.natCast_add, Int.natCast_one, Int.natCast_zero, Int.ofNat_zero]
          · have hrk := hS.rk hkl
            obtain ⟨k, hk⟩ : ∃ k, ix ks 0 = k := ⟨_, rfl⟩
            have hof := fun o : AO => iOutFinger_c s _ cs k (H ++ [o]) (hrc.app _) (by omega)
            simp only [List.length_append, List.length_cons, List.length_nil, Nat.zero_add, List.append_assoc, List.cons_append, List.nil_append] at hof
            rw [hI.gone] at hof
            simp only [Option.isSome_none, Option.getD_none, if_false, Bool.false_eq_true, List.length_nil, List.map_nil, reduceIte] at hof
            obtain ⟨KZ, hKZ⟩ := hS.pre
            have hpcn : n ≤ 1048576 := by omega
            have hn8 : ((n : Nat) : Int) + 8 = ((n + 8 : Nat) : Int) := by omega
            repeat' (first
 | ((with_reducible refine hK _ _ ?_); clear hK K)
 | ((with_reducible refine hK _ ?_); clear hK K; try simp only [])
 | ((with_reducible refine hK _ _ ?_ ?_); (first | exact Or.inl rfl | exact Or.inr (fun _ => by (first | exact ⟨_, rfl⟩ | exact ⟨_, by rw [List.append_assoc]; rfl⟩ | exact ⟨_, by simp only [List.append_assoc, List.cons_append, List.nil_append]; rfl⟩ | exact ⟨_, by rw [hp_setj, List.append_assoc]; rfl⟩ | exact ⟨_, hp_setj _ _ _ _⟩ | exact ⟨[], (List.append_nil _).symm⟩))); clear hK K)
 | ((first | (with_reducible show AOp _ _ _ _ _ _ _) | (with_reducible show AQOp _ _ _ _ _ _ _)); simp (disch := first | ((with_reducible show liveO _ _ _ = true); first | assumption | (exact hS.lB) | (exact liveO_setS (by assumption)) | (exact PtL.live (by assumption)) | (exact PtL.liveA (by assumption) _) | (simp only [go_sem]; done)) | omega | assumption | rfl | (simp only [go_sem]; first | done | omega)) only [go_sem, reduceIte, reduceCtorEq, Nat.reduceAdd, Nat.reduceMul, Nat.reduceSub, Nat.reduceLeDiff, Nat.lt_irrefl, Nat.reduceLT, Nat.reduceEqDiff, Nat.reduceBEq, Int.reduceLE, Int.reduceLT, Int.reduceToNat, w64, eq_self, gB1, hS.gB, hS.gB0, hrk.idxm, hrk.ldm, hrk.idxmA, hrk.ldmA, hkl, hk])
 | ((with_reducible refine AW_seqN [44] ?_ (fun K hK => ?_)); (exact rfl))
 | (with_reducible refine AW_region tyOk ?_)
 | ((with_reducible apply AW_treeV (id := 41) tyOk 11 [(8, H.length)] [(28, 2)] [9, 10]); (kernel_rfl); (exact rfl); simp only [List.map_cons, List.map_nil, List.append_assoc, List.cons_append, List.nil_append])
 | ((with_reducible refine AAnyR_leaf (by decide +kernel) ?_); (with_reducible exact Wk.refl))
 | ((with_reducible refine AAnyR_quiet 0 rfl rfl ?_ (by decide +kernel) (by decide +kernel) (by decide +kernel) (by decide +kernel) (by (first | exact ⟨_, rfl⟩ | exact ⟨_, by rw [List.append_assoc]; rfl⟩ | exact ⟨_, by simp only [List.append_assoc, List.cons_append, List.nil_append]; rfl⟩ | exact ⟨_, by rw [hp_setj, List.append_assoc]; rfl⟩ | exact ⟨_, hp_setj _ _ _ _⟩ | exact ⟨[], (List.append_nil _).symm⟩)) (fun K hK => ?_)); (exact rfl))
 | ((with_reducible refine AAnyR_quiet 1 rfl rfl ?_ (by decide +kernel) (by decide +kernel) (by decide +kernel) (by decide +kernel) (by (first | exact ⟨_, rfl⟩ | exact ⟨_, by rw [List.append_assoc]; rfl⟩ | exact ⟨_, by simp only [List.append_assoc, List.cons_append, List.nil_append]; rfl⟩ | exact ⟨_, by rw [hp_setj, List.append_assoc]; rfl⟩ | exact ⟨_, hp_setj _ _ _ _⟩ | exact ⟨[], (List.append_nil _).symm⟩)) (fun K hK => ?_)); (exact rfl))
 | ((with_reducible refine AAnyR_quiet 2 rfl rfl ?_ (by decide +kernel) (by decide +kernel) (by decide +kernel) (by decide +kernel) (by (first | exact ⟨_, rfl⟩ | exact ⟨_, by rw [List.append_assoc]; rfl⟩ | exact ⟨_, by simp only [List.append_assoc, List.cons_append, List.nil_append]; rfl⟩ | exact ⟨_, by rw [hp_setj, List.append_assoc]; rfl⟩ | exact ⟨_, hp_setj _ _ _ _⟩ | exact ⟨[], (List.append_nil _).symm⟩)) (fun K hK => ?_)); (exact rfl))
 | ((with_reducible refine AAnyR_quiet 3 rfl rfl ?_ (by decide +kernel) (by decide +kernel) (by decide +kernel) (by decide +kernel) (by (first | exact ⟨_, rfl⟩ | exact ⟨_, by rw [List.append_assoc]; rfl⟩ | exact ⟨_, by simp only [List.append_assoc, List.cons_append, List.nil_append]; rfl⟩ | exact ⟨_, by rw [hp_setj, List.append_assoc]; rfl⟩ | exact ⟨_, hp_setj _ _ _ _⟩ | exact ⟨[], (List.append_nil _).symm⟩)) (fun K hK => ?_)); (exact rfl))
 | ((with_reducible refine AAnyR_quiet 5 rfl rfl ?_ (by decide +kernel) (by decide +kernel) (by decide +kernel) (by decide +kernel) (by (first | exact ⟨_, rfl⟩ | exact ⟨_, by rw [List.append_assoc]; rfl⟩ | exact ⟨_, by simp only [List.append_assoc, List.cons_append, List.nil_append]; rfl⟩ | exact ⟨_, by rw [hp_setj, List.append_assoc]; rfl⟩ | exact ⟨_, hp_setj _ _ _ _⟩ | exact ⟨[], (List.append_nil _).symm⟩)) (fun K hK => ?_)); (exact rfl))
 | ((with_reducible refine AAnyR_quiet 6 rfl rfl ?_ (by decide +kernel) (by decide +kernel) (by decide +kernel) (by decide +kernel) (by (first | exact ⟨_, rfl⟩ | exact ⟨_, by rw [List.append_assoc]; rfl⟩ | exact ⟨_, by simp only [List.append_assoc, List.cons_append, List.nil_append]; rfl⟩ | exact ⟨_, by rw [hp_setj, List.append_assoc]; rfl⟩ | exact ⟨_, hp_setj _ _ _ _⟩ | exact ⟨[], (List.append_nil _).symm⟩)) (fun K hK => ?_)); (exact rfl))
 | (with_reducible refine AAnyR_step 4 [8] (by decide +kernel) ?_)
 | (with_reducible refine AAnyR_step 7 [8] (by decide +kernel) ?_)
 | (with_reducible refine AAnyR_step 7 [9] (by decide +kernel) ?_)
 | (with_reducible refine AAnyR_step 4 [] (by decide +kernel) ?_)
 | (with_reducible refine AAnyR_step 7 [] (by decide +kernel) ?_)
 | (with_reducible refine AAnyR_step 8 [] (by decide +kernel) ?_)
 | (with_reducible refine AAnyR_step 9 [] (by decide +kernel) ?_)
 | (with_reducible refine AAnyR_step 10 [] (by decide +kernel) ?_)
 | ((with_reducible refine AAllR_res (i := 8) (H.length) 20 ?_ rfl ?_ (fun K hK => ?_) ?_); (exact rfl); (exact rfl))
 | ((with_reducible show RK _ _ _ _ _ _); (try simp only [List.append_assoc, List.cons_append, List.nil_append, hp_setj, List.set_cons_succ, List.set_cons_zero]); refine RK_intro _ (by first | exact List.append_assoc _ _ _ | rfl) (by first | exact (hp_getj _ _ _).trans rfl | exact (hp_get0 _ _).trans rfl) rfl rfl (by first | exact (fun c hc => (scal_int _ _ c hc).2) | (intro c hc; simp only [List.mem_cons, List.not_mem_nil, or_false] at hc; (try (rcases hc with rfl | rfl | rfl | rfl | rfl)) <;> first | exact trivial | (subst hc; exact trivial) | (cases hc; done))) (by first | exact ⟨_, _, rfl, by simp, Or.inl rfl⟩ | exact ⟨_, _, rfl, by simp, Or.inr ⟨_, rfl⟩⟩) ?_; simp only [hp_setj, hp_set0, List.set_cons_succ, List.set_cons_zero, List.getD_cons_succ, List.getD_cons_zero, reloc]; refine ⟨Or.inr (fun _ => by (first | exact ⟨_, rfl⟩ | exact ⟨_, by rw [List.append_assoc]; rfl⟩ | exact ⟨_, by simp only [List.append_assoc, List.cons_append, List.nil_append]; rfl⟩ | exact ⟨_, by rw [hp_setj, List.append_assoc]; rfl⟩ | exact ⟨_, hp_setj _ _ _ _⟩ | exact ⟨[], (List.append_nil _).symm⟩)), ?_⟩)
 | ((with_reducible refine AAllR_cons ?_ rfl (fun K hK => ?_) ?_); (exact rfl))
 | (with_reducible exact AAllR_nil)
 | ((with_reducible show thenA _ _ _ _ _); simp only [thenA, blockA, if_true, if_false, reduceIte])
 | ((with_reducible show blockA _ _ _ _ _); simp only [thenA, blockA, if_true, if_false, reduceIte, Nat.reduceEqDiff, reduceCtorEq])
 | (with_reducible refine AOps_cons (fun K hK => ?_))
 | (with_reducible refine AQOps_cons (fun K hK => ?_))
 | ((with_reducible refine AQOps_nil ?_); try simp only [thenA, blockA, if_true, if_false, reduceIte, Nat.reduceEqDiff, reduceCtorEq])
 | ((with_reducible refine AOps_nil ?_); try simp only [thenA, blockA, if_true, if_false, reduceIte, Nat.reduceEqDiff, reduceCtorEq])
 | (with_reducible refine AW_block ?_)
 | ((first | (with_reducible refine AW_ret ?_) | (with_reducible refine AW_skip ?_) | (with_reducible refine AW_exit ?_)); try simp only [thenA, blockA, if_true, if_false, reduceIte, Nat.reduceEqDiff, reduceCtorEq])
 | ((with_reducible show AW _ _ (.cond _ _ _) _ _ _); refine AW_cond rfl (fun hg => ?_) (fun hg => ?_) <;> first | (exfalso; simp only [reduceCtorEq] at hg; done) | ((try simp only [Bool.not_eq_true', Bool.not_eq_false', decide_eq_true_eq, decide_eq_false_iff_not] at hg); try (exfalso; omega)))
 | ((with_reducible show _ ∧ _); refine And.intro (fun hg => ?_) (fun hg => ?_) <;> (try simp only [Bool.not_eq_true', Bool.not_eq_false'] at hg) <;> simp only [hg] <;> (try simp only [decide_eq_true_eq, decide_eq_false_iff_not] at hg) <;> (try (exfalso; omega)))
 | ((first | (with_reducible apply FunH_intro) | (with_reducible apply AQ_intro)); (first | ((with_reducible show FunH _ 10 _ _ _); exact hof _)))
 | (clear hK K)
              | fail)
            have hSY := hS.app [(⟨1, false, 28, 2, [.int .i64 0, .sl (H.length + 1) 0 0 0 none]⟩ : AO), ⟨0, false, 2, 1, []⟩]
            obtain ⟨Y, hY⟩ : ∃ Y, H ++ [(⟨1, false, 28, 2, [.int .i64 0, .sl (H.length + 1) 0 0 0 none]⟩ : AO), ⟨0, false, 2, 1, []⟩] = Y := ⟨_, rfl⟩
            rw [hY] at hSY ⊢
            obtain ⟨KY, hKY⟩ := hSY.pre
            have hrY := hSY.rk hkl
            have ha1Y : RdL Y a1v (a1x.map (LV.int .u8)) := by rw [hKY]; exact ha1x.app _
            clear hKZ KZ hrk hof hY hS hz0 hrc hrp gB1 hSY
            have hpc := iPeelCells_c (.sl H0.length 0 0 n none) ks ((n : Int) + 8) u Y hrY (by omega)
            have hw3 : IntKind.i64.wrap (3 * ((n : Int) + 8)) = 3 * ((n : Int) + 8) := w64 _ (by omega) (by omega)
            cases hok : pcOk ks ((n : Int) + 8) u
            · rw [hok] at hpc
              repeat' (first
 | ((with_reducible refine hK _ _ ?_); clear hK K)
 | ((first | (with_reducible show AOp _ _ _ _ _ _ _)); simp (disch := first | ((with_reducible show liveO _ _ _ = true); first | assumption | (exact hS.lB) | (exact liveO_setS (by assumption)) | (exact PtL.live (by assumption)) | (exact PtL.liveA (by assumption) _) | (simp only [go_sem]; done)) | omega | assumption | rfl | (simp only [go_sem]; first | done | omega)) only [go_sem, reduceIte, reduceCtorEq, Nat.reduceAdd, Nat.reduceMul, Nat.reduceSub, Nat.reduceLeDiff, Nat.lt_irrefl, Nat.reduceLT, Nat.reduceEqDiff, Nat.reduceBEq, Int.reduceLE, Int.reduceLT, Int.reduceToNat, w64, eq_self, hu, hkl])
 | (with_reducible refine AW_seq (fun K hK => ?_))
 | (with_reducible refine AW_region tyOk ?_)
 | (with_reducible refine AOps_cons (fun K hK => ?_))
 | ((with_reducible refine AOps_nil ?_); try simp only [thenA, blockA, if_true, if_false, reduceIte, Nat.reduceEqDiff, reduceCtorEq])
 | (with_reducible refine AW_block ?_)
 | ((first | (with_reducible refine AW_ret ?_) | (with_reducible refine AW_skip ?_) | (with_reducible refine AW_exit ?_)); try simp only [thenA, blockA, if_true, if_false, reduceIte, Nat.reduceEqDiff, reduceCtorEq])
 | ((with_reducible show AW _ _ (.cond _ _ _) _ _ _); refine AW_cond rfl (fun hg => ?_) (fun hg => ?_) <;> first | (exfalso; simp only [reduceCtorEq] at hg; done) | ((try simp only [Bool.not_eq_true', Bool.not_eq_false', decide_eq_true_eq, decide_eq_false_iff_not] at hg); try (exfalso; omega)))
 | ((with_reducible show _ ∧ _); refine And.intro (fun hg => ?_) (fun hg => ?_) <;> (try simp only [Bool.not_eq_true', Bool.not_eq_false'] at hg) <;> simp only [hg] <;> (try simp only [decide_eq_true_eq, decide_eq_false_iff_not] at hg) <;> (try (exfalso; omega)))
 | ((with_reducible apply FunH_intro); (first | ((with_reducible show FunH _ 6 _ _ _); exact hA2 _ ha1Y) | ((with_reducible show FunH _ 11 _ _ _); exact hpc)))
 | (clear hK K)
                | fail)
              all_goals (first | refine EndA_cut hcl (by first | exact Or.inr rfl | exact Or.inl rfl) (by simp only [Try.results3, resA, aresL, go_sem, reduceIte, reduceCtorEq, Nat.reduceAdd, Nat.reduceMul, Nat.reduceSub, Nat.reduceLeDiff, Nat.lt_irrefl, Nat.reduceLT, Nat.reduceEqDiff, Nat.reduceBEq, Int.reduceLE, Int.reduceLT, Int.reduceToNat, w64, eq_self] <;> rfl) rfl ?_ | refine EndA_same (by first | exact Or.inr rfl | exact Or.inl rfl) (by simp only [Try.results3, resA, aresL, go_sem, reduceIte, reduceCtorEq, Nat.reduceAdd, Nat.reduceMul, Nat.reduceSub, Nat.reduceLeDiff, Nat.lt_irrefl, Nat.reduceLT, Nat.reduceEqDiff, Nat.reduceBEq, Int.reduceLE, Int.reduceLT, Int.reduceToNat, w64, eq_self] <;> rfl) ?_)
              all_goals rfl
            · obtain ⟨q1, q2, q3⟩ := pcL_ok hok
              rw [hok] at hpc
              obtain ⟨out, hout⟩ : ∃ out, pcL ks ((n : Int) + 8) u = out := ⟨_, rfl⟩
              rw [hout] at hpc q1 q2 q3
              obtain ⟨m, hm⟩ : ∃ m, out.length = m := ⟨_, rfl⟩
              rw [hm] at hpc
              have hm3 : (((m : Nat) : Int) != 3 * ((n : Int) + 8)) = false := by
                have : ((m : Nat) : Int) = 3 * ((n : Int) + 8) := by omega
                rw [this]; simp
              repeat' (first
 | ((with_reducible refine hK _ _ ?_); clear hK K)
 | ((first | (with_reducible show AOp _ _ _ _ _ _ _)); simp (disch := first | ((with_reducible show liveO _ _ _ = true); first | assumption | (exact hS.lB) | (exact liveO_setS (by assumption)) | (exact PtL.live (by assumption)) | (exact PtL.liveA (by assumption) _) | (simp only [go_sem]; done)) | omega | assumption | rfl | (simp only [go_sem]; first | done | omega)) only [go_sem, reduceIte, reduceCtorEq, Nat.reduceAdd, Nat.reduceMul, Nat.reduceSub, Nat.reduceLeDiff, Nat.lt_irrefl, Nat.reduceLT, Nat.reduceEqDiff, Nat.reduceBEq, Int.reduceLE, Int.reduceLT, Int.reduceToNat, w64, eq_self, hu, hkl, hw3, hm3])
 | (with_reducible refine AW_seq (fun K hK => ?_))
 | (with_reducible refine AW_region tyOk ?_)
 | (with_reducible refine AOps_cons (fun K hK => ?_))
 | ((with_reducible refine AOps_nil ?_); try simp only [thenA, blockA, if_true, if_false, reduceIte, Nat.reduceEqDiff, reduceCtorEq])
 | (with_reducible refine AW_block ?_)
 | ((first | (with_reducible refine AW_ret ?_) | (with_reducible refine AW_skip ?_) | (with_reducible refine AW_exit ?_)); try simp only [thenA, blockA, if_true, if_false, reduceIte, Nat.reduceEqDiff, reduceCtorEq])
 | ((with_reducible show AW _ _ (.cond _ _ _) _ _ _); refine AW_cond rfl (fun hg => ?_) (fun hg => ?_) <;> first | (exfalso; simp only [reduceCtorEq] at hg; done) | ((try simp only [Bool.not_eq_true', Bool.not_eq_false', decide_eq_true_eq, decide_eq_false_iff_not] at hg); try (exfalso; omega)))
 | ((with_reducible show _ ∧ _); refine And.intro (fun hg => ?_) (fun hg => ?_) <;> (try simp only [Bool.not_eq_true', Bool.not_eq_false'] at hg) <;> simp only [hg] <;> (try simp only [decide_eq_true_eq, decide_eq_false_iff_not] at hg) <;> (try (exfalso; omega)))
 | ((with_reducible apply FunH_intro); (first | ((with_reducible show FunH _ 6 _ _ _); exact hA2 _ ha1Y) | ((with_reducible show FunH _ 11 _ _ _); exact hpc)))
 | (clear hK K)
                | fail)
              have hrH := hrY.app [(⟨0, false, 2, 1, out.map (LV.int .i64)⟩ : AO)]
              have hro : RdL (Y ++ [(⟨0, false, 2, 1, out.map (LV.int .i64)⟩ : AO)]) (.sl Y.length 0 0 m none) (out.map (LV.int .i64)) := RdL_h0 rfl (by rw [List.length_map, hm])
              obtain ⟨H, hH⟩ : ∃ H, Y ++ [(⟨0, false, 2, 1, out.map (LV.int .i64)⟩ : AO)] = H := ⟨_, rfl⟩
              rw [hH] at hrH hro ⊢
              clear hH hKY hpc hok ha1Y hrY
              refine AW_loopV [4, 26, 27, 28, 179, 180, 181, 182, 183, 184, 185, 186, 187, 188, 189, 190, 191, 192, 193, 194, 195, 196, 197, 198, 199, 200] (fun j : Nat => [(26, .int .i64 (j : Nat))]) (fun _ => H) (fun j => j ≤ n) (fun j => n - j) 0 (Nat.zero_le _) ?_ rfl ?_
              · simp only [junkAll, setAll, List.foldl_cons, List.foldl_nil, List.set_cons_succ, List.set_cons_zero, JL, true_or, or_true, and_true, true_and, reduceCtorEq, false_or, or_false, LV.int.injEq, LV.bool.injEq, LV.flt.injEq, LV.sl.injEq, LV.ptr.injEq, eq_self, Int.natCast_add, Int.natCast_one, Int.natCast_zero, Int.ofNat_zero]
              intro b hb K hK
              simp only [junkAll, setAll, List.foldl_cons, List.foldl_nil, List.set_cons_succ, List.set_cons_zero]
              by_cases hbn : b < n
              · have hbm := ix_mem ks b (by omega)
                have hip := iInPeeled_c _ out (ix ks b) ((n : Int) + 8) u H hro q1 (by omega) q2 (hkB _ hbm) hks2
                rw [q3 _ hbm, beq_self_eq_true] at hip
                repeat' (first
 | ((with_reducible refine hK _ _ ?_); clear hK K)
 | ((first | (with_reducible show AOp _ _ _ _ _ _ _)); simp (disch := first | ((with_reducible show liveO _ _ _ = true); first | assumption | (exact hS.lB) | (exact liveO_setS (by assumption)) | (exact PtL.live (by assumption)) | (exact PtL.liveA (by assumption) _) | (simp only [go_sem]; done)) | omega | assumption | rfl | (simp only [go_sem]; first | done | omega)) only [go_sem, reduceIte, reduceCtorEq, Nat.reduceAdd, Nat.reduceMul, Nat.reduceSub, Nat.reduceLeDiff, Nat.lt_irrefl, Nat.reduceLT, Nat.reduceEqDiff, Nat.reduceBEq, Int.reduceLE, Int.reduceLT, Int.reduceToNat, w64, eq_self, hkl, hrH.idxm, hrH.ldm])
 | (with_reducible refine AW_seq (fun K hK => ?_))
 | (with_reducible refine AW_region tyOk ?_)
 | (with_reducible refine AOps_cons (fun K hK => ?_))
 | ((with_reducible refine AOps_nil ?_); try simp only [thenA, blockA, if_true, if_false, reduceIte, Nat.reduceEqDiff, reduceCtorEq])
 | (with_reducible refine AW_block ?_)
 | ((first | (with_reducible refine AW_ret ?_) | (with_reducible refine AW_skip ?_) | (with_reducible refine AW_exit ?_)); try simp only [thenA, blockA, if_true, if_false, reduceIte, Nat.reduceEqDiff, reduceCtorEq])
 | ((with_reducible show AW _ _ (.cond _ _ _) _ _ _); refine AW_cond rfl (fun hg => ?_) (fun hg => ?_) <;> first | (exfalso; simp only [reduceCtorEq] at hg; done) | ((try simp only [Bool.not_eq_true', Bool.not_eq_false', decide_eq_true_eq, decide_eq_false_iff_not] at hg); try (exfalso; omega)))
 | ((with_reducible show _ ∧ _); refine And.intro (fun hg => ?_) (fun hg => ?_) <;> (try simp only [Bool.not_eq_true', Bool.not_eq_false'] at hg) <;> simp only [hg] <;> (try simp only [decide_eq_true_eq, decide_eq_false_iff_not] at hg) <;> (try (exfalso; omega)))
 | ((with_reducible apply FunH_intro); (first | ((with_reducible show FunH _ 12 _ _ _); exact hip)))
 | (clear hK K)
                  | fail)
                refine hK _ _ (b + 1) (by omega) (by omega) ?_ rfl
                simp only [junkAll, setAll, List.foldl_cons, List.foldl_nil, List.set_cons_succ, List.set_cons_zero, JL, true_or, or_true, and_true, true_and, reduceCtorEq, false_or, or_false, LV.int.injEq, LV.bool.injEq, LV.flt.injEq, LV.sl.injEq, LV.ptr.injEq, eq_self, Int.natCast_add, Int.natCast_one, Int.natCast_zero, Int.ofNat_zero]
              · have hno : pcOk (ks ++ [k]) ((n : Int) + 8) u = false ∧ pcL (ks ++ [k]) ((n : Int) + 8) u = [] := by
                  have hd : difB (ks ++ [k]) = false := by
                    rw [difB_snoc, List.contains_iff_mem.2 (by rw [← hk]; exact ix_mem ks 0 (by omega))]; simp
                  have hr : pcR (ks ++ [k]) ((n : Int) + 8) u = none := by
                    unfold pcR pcV; rw [hd]; simp
                  unfold pcOk pcL; rw [hr]; exact ⟨rfl, rfl⟩
                have hpc2 : ∀ (id ver el : Nat) (X : Hp), X[id]? = some ⟨ver, false, el, 1, ks.map (LV.int .i64) ++ [.int .i64 k]⟩ → FunH Try.prog 11 [.sl id ver 0 (n + 1) none, .int .i64 ((n : Int) + 8), .int .i64 u] X fun r H' => r = .tup [.sl X.length 0 0 0 none, .bool false] ∧ H' = X ++ [⟨0, false, 2, 1, []⟩] := fun id ver el X hx => by
                  have := iPeelCells_c (.sl id ver 0 (n + 1) none) (ks ++ [k]) ((n : Int) + 8) u X (RdL_id (by rw [List.map_append]; exact hx) (by rw [List.length_map, List.length_append, hkl]; rfl)) (by rw [List.length_append, hkl]; simp; omega)
                  rw [hno.1, hno.2] at this
                  exact this
                have hkm2 : (ks.map (LV.int .i64)).length = n := by rw [List.length_map, hkl]
                have hn0 : ¬ n = 0 := by omega
                have hnA : n * 8 ≤ 140737488355328 := by omega
                have hnB : n ≤ 17592186044416 := by omega
                have hnP : 0 < n := by omega
                repeat' (first
 | ((with_reducible refine hK _ _ ?_); clear hK K)
 | ((with_reducible refine hK _ ?_); clear hK K; try simp only [])
 | ((with_reducible refine hK _ _ ?_ ?_); (first | exact Or.inl rfl | exact Or.inr (by (first | exact ⟨_, rfl⟩ | exact ⟨_, by rw [List.append_assoc]; rfl⟩ | exact ⟨_, by simp only [List.append_assoc, List.cons_append, List.nil_append]; rfl⟩ | exact ⟨_, by rw [hp_setj, List.append_assoc]; rfl⟩ | exact ⟨_, hp_setj _ _ _ _⟩ | exact ⟨[], (List.append_nil _).symm⟩))); clear hK K)
 | ((first | (with_reducible show AOp _ _ _ _ _ _ _) | (with_reducible show AQOp _ _ _ _ _ _ _)); simp (disch := first | ((with_reducible show liveO _ _ _ = true); first | assumption | (exact hS.lB) | (exact liveO_setS (by assumption)) | (exact PtL.live (by assumption)) | (exact PtL.liveA (by assumption) _) | (simp only [go_sem]; done)) | omega | assumption | rfl | (simp only [go_sem]; first | done | omega)) only [go_sem, reduceIte, reduceCtorEq, Nat.reduceAdd, Nat.reduceMul, Nat.reduceSub, Nat.reduceLeDiff, Nat.lt_irrefl, Nat.reduceLT, Nat.reduceEqDiff, Nat.reduceBEq, Int.reduceLE, Int.reduceLT, Int.reduceToNat, w64, eq_self, hkl, hrH.idxm, hrH.ldm, hrH.idxmA, hrH.ldmA, hrH.cells, hrH.cellsA, hkm2, int_cells, hk, hn0, hnA, hnB, hnP])
 | (with_reducible refine AW_seq (fun K hK => ?_))
 | (with_reducible refine AW_region tyOk ?_)
 | ((with_reducible apply AW_treeQ (id := 57) tyOk 16 []); (kernel_rfl); (exact rfl))
 | ((with_reducible refine AAnyN_leaf (by decide +kernel) ?_); (try simp only [thenA, blockA, if_true, if_false, reduceIte]))
 | ((with_reducible refine AAnyN_leaf (by decide +kernel) ?_); (first | (refine Wk.permK (fun k : Nat => if k = 0 then 1 else if k = 1 then 0 else k) (fun k : Nat => if k = 0 then 1 else if k = 1 then 0 else k) hcl ?_ ?_ ?_; (intro k hk; (rcases k with _ | _ | _ | _ | k) <;> first | (simp (disch := assumption) [rnO, rnB_junk, rnB_bool, rnB_int, rnB_flt, rnB_nils, rnB_emp, rnB_ptr, rnB_sl, rnL_junk, rnL_bool, rnL_int, rnL_flt, rnL_nils, rnL_emp, rnL_ptr, rnL_sl, rnL_agg, rnL_fn, rnT_junk, rnT_bool, rnT_int, rnT_flt, rnT_nils, rnT_emp, rnT_ptr, rnT_sl, rnT_agg, rnT_fn, rnT_tup, sw_0, sw_k, rnB_mapI, rnB_mapF, rnB_mapB, rnB_bnd, rnT_bnd, List.map_cons, List.map_nil, List.getElem?_cons_zero, List.getElem?_cons_succ, List.getElem?_nil, Option.map_some, Option.map_none, reduceIte, Nat.reduceEqDiff, Nat.reduceAdd, and_self, and_true, true_and, Nat.zero_add, Nat.succ_ne_self]; done) | (exfalso; simp only [List.length_cons, List.length_nil] at hk; omega)); (intro k hk; (rcases k with _ | _ | _ | _ | k) <;> first | (simp (disch := assumption) [rnO, rnB_junk, rnB_bool, rnB_int, rnB_flt, rnB_nils, rnB_emp, rnB_ptr, rnB_sl, rnL_junk, rnL_bool, rnL_int, rnL_flt, rnL_nils, rnL_emp, rnL_ptr, rnL_sl, rnL_agg, rnL_fn, rnT_junk, rnT_bool, rnT_int, rnT_flt, rnT_nils, rnT_emp, rnT_ptr, rnT_sl, rnT_agg, rnT_fn, rnT_tup, sw_0, sw_k, rnB_mapI, rnB_mapF, rnB_mapB, rnB_bnd, rnT_bnd, List.map_cons, List.map_nil, List.getElem?_cons_zero, List.getElem?_cons_succ, List.getElem?_nil, Option.map_some, Option.map_none, reduceIte, Nat.reduceEqDiff, Nat.reduceAdd, and_self, and_true, true_and, Nat.zero_add, Nat.succ_ne_self]; done) | (exfalso; simp only [List.length_cons, List.length_nil] at hk; omega)); (simp (disch := assumption) [rnO, rnB_junk, rnB_bool, rnB_int, rnB_flt, rnB_nils, rnB_emp, rnB_ptr, rnB_sl, rnL_junk, rnL_bool, rnL_int, rnL_flt, rnL_nils, rnL_emp, rnL_ptr, rnL_sl, rnL_agg, rnL_fn, rnT_junk, rnT_bool, rnT_int, rnT_flt, rnT_nils, rnT_emp, rnT_ptr, rnT_sl, rnT_agg, rnT_fn, rnT_tup, sw_0, sw_k, rnB_mapI, rnB_mapF, rnB_mapB, rnB_bnd, rnT_bnd, List.map_cons, List.map_nil, List.getElem?_cons_zero, List.getElem?_cons_succ, List.getElem?_nil, Option.map_some, Option.map_none, reduceIte, Nat.reduceEqDiff, Nat.reduceAdd, and_self, and_true, true_and, Nat.zero_add, Nat.succ_ne_self]))))
 | ((with_reducible refine AAnyN_bs 0 rfl (by decide +kernel) (by decide +kernel) (by decide +kernel) (by decide +kernel) (by decide +kernel) (by (first | exact ⟨_, rfl⟩ | exact ⟨_, by rw [List.append_assoc]; rfl⟩ | exact ⟨_, by simp only [List.append_assoc, List.cons_append, List.nil_append]; rfl⟩ | exact ⟨_, by rw [hp_setj, List.append_assoc]; rfl⟩ | exact ⟨_, hp_setj _ _ _ _⟩ | exact ⟨[], (List.append_nil _).symm⟩)) ?_); simp only [putA, List.set_cons_succ, List.set_cons_zero])
 | (with_reducible refine AAnyN_quiet 1 rfl rfl (by decide +kernel) (by decide +kernel) (by decide +kernel) (by decide +kernel) (by (first | exact ⟨_, rfl⟩ | exact ⟨_, by rw [List.append_assoc]; rfl⟩ | exact ⟨_, by simp only [List.append_assoc, List.cons_append, List.nil_append]; rfl⟩ | exact ⟨_, by rw [hp_setj, List.append_assoc]; rfl⟩ | exact ⟨_, hp_setj _ _ _ _⟩ | exact ⟨[], (List.append_nil _).symm⟩)) (fun K hK => ?_))
 | (with_reducible refine AAnyN_quiet 3 rfl rfl (by decide +kernel) (by decide +kernel) (by decide +kernel) (by decide +kernel) (by (first | exact ⟨_, rfl⟩ | exact ⟨_, by rw [List.append_assoc]; rfl⟩ | exact ⟨_, by simp only [List.append_assoc, List.cons_append, List.nil_append]; rfl⟩ | exact ⟨_, by rw [hp_setj, List.append_assoc]; rfl⟩ | exact ⟨_, hp_setj _ _ _ _⟩ | exact ⟨[], (List.append_nil _).symm⟩)) (fun K hK => ?_))
 | (with_reducible refine AAnyN_quiet 4 rfl rfl (by decide +kernel) (by decide +kernel) (by decide +kernel) (by decide +kernel) (by (first | exact ⟨_, rfl⟩ | exact ⟨_, by rw [List.append_assoc]; rfl⟩ | exact ⟨_, by simp only [List.append_assoc, List.cons_append, List.nil_append]; rfl⟩ | exact ⟨_, by rw [hp_setj, List.append_assoc]; rfl⟩ | exact ⟨_, hp_setj _ _ _ _⟩ | exact ⟨[], (List.append_nil _).symm⟩)) (fun K hK => ?_))
 | (with_reducible refine AAnyN_quiet 5 rfl rfl (by decide +kernel) (by decide +kernel) (by decide +kernel) (by decide +kernel) (by (first | exact ⟨_, rfl⟩ | exact ⟨_, by rw [List.append_assoc]; rfl⟩ | exact ⟨_, by simp only [List.append_assoc, List.cons_append, List.nil_append]; rfl⟩ | exact ⟨_, by rw [hp_setj, List.append_assoc]; rfl⟩ | exact ⟨_, hp_setj _ _ _ _⟩ | exact ⟨[], (List.append_nil _).symm⟩)) (fun K hK => ?_))
 | (with_reducible refine AAnyN_quiet 8 rfl rfl (by decide +kernel) (by decide +kernel) (by decide +kernel) (by decide +kernel) (by (first | exact ⟨_, rfl⟩ | exact ⟨_, by rw [List.append_assoc]; rfl⟩ | exact ⟨_, by simp only [List.append_assoc, List.cons_append, List.nil_append]; rfl⟩ | exact ⟨_, by rw [hp_setj, List.append_assoc]; rfl⟩ | exact ⟨_, hp_setj _ _ _ _⟩ | exact ⟨[], (List.append_nil _).symm⟩)) (fun K hK => ?_))
 | (with_reducible refine AAnyN_quiet 9 rfl rfl (by decide +kernel) (by decide +kernel) (by decide +kernel) (by decide +kernel) (by (first | exact ⟨_, rfl⟩ | exact ⟨_, by rw [List.append_assoc]; rfl⟩ | exact ⟨_, by simp only [List.append_assoc, List.cons_append, List.nil_append]; rfl⟩ | exact ⟨_, by rw [hp_setj, List.append_assoc]; rfl⟩ | exact ⟨_, hp_setj _ _ _ _⟩ | exact ⟨[], (List.append_nil _).symm⟩)) (fun K hK => ?_))
 | (with_reducible refine AAnyN_quiet 11 rfl rfl (by decide +kernel) (by decide +kernel) (by decide +kernel) (by decide +kernel) (by (first | exact ⟨_, rfl⟩ | exact ⟨_, by rw [List.append_assoc]; rfl⟩ | exact ⟨_, by simp only [List.append_assoc, List.cons_append, List.nil_append]; rfl⟩ | exact ⟨_, by rw [hp_setj, List.append_assoc]; rfl⟩ | exact ⟨_, hp_setj _ _ _ _⟩ | exact ⟨[], (List.append_nil _).symm⟩)) (fun K hK => ?_))
 | (with_reducible refine AAnyN_quiet 12 rfl rfl (by decide +kernel) (by decide +kernel) (by decide +kernel) (by decide +kernel) (by (first | exact ⟨_, rfl⟩ | exact ⟨_, by rw [List.append_assoc]; rfl⟩ | exact ⟨_, by simp only [List.append_assoc, List.cons_append, List.nil_append]; rfl⟩ | exact ⟨_, by rw [hp_setj, List.append_assoc]; rfl⟩ | exact ⟨_, hp_setj _ _ _ _⟩ | exact ⟨[], (List.append_nil _).symm⟩)) (fun K hK => ?_))
 | (with_reducible refine AAnyN_quiet 13 rfl rfl (by decide +kernel) (by decide +kernel) (by decide +kernel) (by decide +kernel) (by (first | exact ⟨_, rfl⟩ | exact ⟨_, by rw [List.append_assoc]; rfl⟩ | exact ⟨_, by simp only [List.append_assoc, List.cons_append, List.nil_append]; rfl⟩ | exact ⟨_, by rw [hp_setj, List.append_assoc]; rfl⟩ | exact ⟨_, hp_setj _ _ _ _⟩ | exact ⟨[], (List.append_nil _).symm⟩)) (fun K hK => ?_))
 | (with_reducible refine AAnyN_quiet 14 rfl rfl (by decide +kernel) (by decide +kernel) (by decide +kernel) (by decide +kernel) (by (first | exact ⟨_, rfl⟩ | exact ⟨_, by rw [List.append_assoc]; rfl⟩ | exact ⟨_, by simp only [List.append_assoc, List.cons_append, List.nil_append]; rfl⟩ | exact ⟨_, by rw [hp_setj, List.append_assoc]; rfl⟩ | exact ⟨_, hp_setj _ _ _ _⟩ | exact ⟨[], (List.append_nil _).symm⟩)) (fun K hK => ?_))
 | (with_reducible refine AAnyN_quiet 15 rfl rfl (by decide +kernel) (by decide +kernel) (by decide +kernel) (by decide +kernel) (by (first | exact ⟨_, rfl⟩ | exact ⟨_, by rw [List.append_assoc]; rfl⟩ | exact ⟨_, by simp only [List.append_assoc, List.cons_append, List.nil_append]; rfl⟩ | exact ⟨_, by rw [hp_setj, List.append_assoc]; rfl⟩ | exact ⟨_, hp_setj _ _ _ _⟩ | exact ⟨[], (List.append_nil _).symm⟩)) (fun K hK => ?_))
 | (with_reducible refine AAnyN_step 2 [6] (by decide +kernel) ?_)
 | (with_reducible refine AAnyN_step 2 [] (by decide +kernel) ?_)
 | (with_reducible refine AAnyN_step 6 [] (by decide +kernel) ?_)
 | (with_reducible refine AAnyN_step 7 [] (by decide +kernel) ?_)
 | (with_reducible refine AAnyN_step 10 [] (by decide +kernel) ?_)
 | (with_reducible refine AAllN_cons rfl (fun K hK => ?_) ?_)
 | (with_reducible exact AAllN_nil)
 | ((with_reducible show thenA _ _ _ _ _); simp only [thenA, blockA, if_true, if_false, reduceIte])
 | ((with_reducible show blockA _ _ _ _ _); simp only [thenA, blockA, if_true, if_false, reduceIte, Nat.reduceEqDiff, reduceCtorEq])
 | (with_reducible refine AOps_cons (fun K hK => ?_))
 | (with_reducible refine AQOps_cons (fun K hK => ?_))
 | ((with_reducible refine AQOps_nil ?_); try simp only [thenA, blockA, if_true, if_false, reduceIte, Nat.reduceEqDiff, reduceCtorEq])
 | ((with_reducible refine AOps_nil ?_); try simp only [thenA, blockA, if_true, if_false, reduceIte, Nat.reduceEqDiff, reduceCtorEq])
 | (with_reducible refine AW_block ?_)
 | ((first | (with_reducible refine AW_ret ?_) | (with_reducible refine AW_skip ?_) | (with_reducible refine AW_exit ?_)); try simp only [thenA, blockA, if_true, if_false, reduceIte, Nat.reduceEqDiff, reduceCtorEq])
 | ((with_reducible show AW _ _ (.cond _ _ _) _ _ _); refine AW_cond rfl (fun hg => ?_) (fun hg => ?_) <;> first | (exfalso; simp only [reduceCtorEq] at hg; done) | ((try simp only [Bool.not_eq_true', Bool.not_eq_false', decide_eq_true_eq, decide_eq_false_iff_not] at hg); try (exfalso; omega)))
 | ((with_reducible show _ ∧ _); refine And.intro (fun hg => ?_) (fun hg => ?_) <;> (try simp only [Bool.not_eq_true', Bool.not_eq_false'] at hg) <;> simp only [hg] <;> (try simp only [decide_eq_true_eq, decide_eq_false_iff_not] at hg) <;> (try (exfalso; omega)))
 | ((first | (with_reducible apply FunH_intro) | (with_reducible apply AQ_intro)); (first | ((with_reducible show FunH _ 11 _ _ _); exact hpc2 _ _ _ _ (by first |exact (hp_get0 _ _).trans rfl |exact (hp_getj _ _ _).trans rfl))))
 | (clear hK K)
                  | fail)
                all_goals (first | refine EndA_cut hcl (by first | exact Or.inr rfl | exact Or.inl rfl) (by simp only [Try.results3, resA, aresL, go_sem, reduceIte, reduceCtorEq, Nat.reduceAdd, Nat.reduceMul, Nat.reduceSub, Nat.reduceLeDiff, Nat.lt_irrefl, Nat.reduceLT, Nat.reduceEqDiff, Nat.reduceBEq, Int.reduceLE, Int.reduceLT, Int.reduceToNat, w64, eq_self] <;> rfl) rfl ?_ | refine EndA_same (by first | exact Or.inr rfl | exact Or.inl rfl) (by simp only [Try.results3, resA, aresL, go_sem, reduceIte, reduceCtorEq, Nat.reduceAdd, Nat.reduceMul, Nat.reduceSub, Nat.reduceLeDiff, Nat.lt_irrefl, Nat.reduceLT, Nat.reduceEqDiff, Nat.reduceBEq, Int.reduceLE, Int.reduceLT, Int.reduceToNat, w64, eq_self] <;> rfl) ?_)
                all_goals rfl
end Go.Proofs.Ythcbbnigpkkkiaa
