/- The walk of the law FnExactPutLevels in the abstract machine. -/
import Derived.Test.YtonlgkecphijoaaYi
import Derived.Test.YtonlgkecphijoaaYk
namespace Go.Proofs.Ytonlgkecphijoaa
open Go.RowKit
set_option linter.unusedSimpArgs false
set_option linter.unusedVariables false
set_option maxRecDepth 100000

set_option maxHeartbeats 8000000 in
theorem lawPutLevels (r s : Int) (v : LV) (L : List LV) (xss : List (List (Option Nat))) (y0v : Option Nat) (H : Hp) (h : RdL H v L) (hL : RdLL H L xss) (hn : xss.length ≤ 9223372036854775807) (hg : goodF xss) (br : -9223372036854775808 ≤ r ∧ r ≤ 9223372036854775807) (bs : -9223372036854775808 ≤ s ∧ s ≤ 9223372036854775807) (fy0v : FOk y0v) :
    FunH Try.prog 3 [.agg [.int .i64 r, .int .i64 s, v], .flt .f32 y0v] H fun r H' => r = .bool true := by
  have hm : ∀ xs ∈ xss, xs.length ≤ 9223372036854775807 := fun xs hx => (hg xs hx).1
  by_cases hq : (1048576 : Int) < (totL xss : Nat)
  · have hs : szFF xss 1048576 = -1 := if_pos hq
    (refine FunH_body tyOk Try.func3 rfl (by kernel_rfl) Try.ntmps3 (fun hcl hbd => ?_); simp only [List.length_cons, List.length_nil, Nat.reduceAdd, Nat.reduceSub, List.replicate, List.cons_append, List.nil_append])
    repeat' (first
      | ((with_reducible refine hK _ _ ?_); clear hK K)
      | ((first | (with_reducible show AOp _ _ _ _ _ _ _)); simp (disch := first | ((with_reducible show liveO _ _ _ = true); first | assumption | (exact liveO_setS (by assumption)) | (exact PtL.live (by assumption)) | (exact PtL.liveA (by assumption) _) | (simp only [go_sem]; done)) | omega | assumption | rfl | (simp only [go_sem]; first | done | omega)) only [go_sem, reduceIte, reduceCtorEq, Nat.reduceAdd, Nat.reduceMul, Nat.reduceSub, Nat.reduceLeDiff, Nat.lt_irrefl, Nat.reduceLT, Nat.reduceEqDiff, Nat.reduceBEq, Int.reduceLE, Int.reduceLT, Int.reduceToNat, w64, eq_self, hs, h.isCell])
      | (with_reducible refine AW_seq (fun K hK => ?_))
      | (with_reducible refine AW_region tyOk ?_)
      | (with_reducible refine AOps_cons (fun K hK => ?_))
      | ((with_reducible refine AOps_nil ?_); try simp only [thenA, blockA, if_true, if_false, reduceIte, Nat.reduceEqDiff, reduceCtorEq])
      | (with_reducible refine AW_block ?_)
      | ((first | (with_reducible refine AW_ret ?_) | (with_reducible refine AW_skip ?_) | (with_reducible refine AW_exit ?_)); try simp only [thenA, blockA, if_true, if_false, reduceIte, Nat.reduceEqDiff, reduceCtorEq])
      | ((with_reducible show AW _ _ (.cond _ _ _) _ _ _); refine AW_cond rfl (fun hg => ?_) (fun hg => ?_) <;> first | (exfalso; simp only [reduceCtorEq] at hg; done) | ((try simp only [Bool.not_eq_true', Bool.not_eq_false', decide_eq_true_eq, decide_eq_false_iff_not] at hg); try (exfalso; omega)))
      | ((with_reducible show _ ∧ _); refine And.intro (fun hg => ?_) (fun hg => ?_) <;> (try simp only [Bool.not_eq_true', Bool.not_eq_false'] at hg) <;> simp only [hg] <;> (try simp only [decide_eq_true_eq, decide_eq_false_iff_not] at hg) <;> (try (exfalso; omega)))
      | ((with_reducible apply FunH_intro); (first | exact szLevels_c _ _ _ _ _ _ (by first | assumption | omega | (simp; omega) | (simp; done)) (by first | assumption | omega | (simp; omega) | (simp; done)) _ (by first | assumption | exact RdL.app (by assumption) _ | exact RdL_hj rfl (by simp) | exact RdL_h0 rfl (by simp) | exact RdL_nil | exact RdL_emp) (by first | assumption | exact RdLL.app (by assumption) _) (by first | assumption | omega | (simp; omega) | (simp; done)) (by first | assumption | (simp; done)) | exact sPutLevels_c _ _ _ _ _ _ _ (by first | assumption | exact RdL.app (by assumption) _ | exact RdL_hj rfl (by simp) | exact RdL_h0 rfl (by simp) | exact RdL_nil | exact RdL_emp) (by first | assumption | exact RdLL.app (by assumption) _) (by first | assumption | omega | (simp; omega) | (simp; done)) | exact iPutLevels_c _ _ _ _ _ _ _ (by first | assumption | exact RdL.app (by assumption) _ | exact RdL_hj rfl (by simp) | exact RdL_h0 rfl (by simp) | exact RdL_nil | exact RdL_emp) (by first | assumption | exact RdLL.app (by assumption) _) (by first | assumption | omega | (simp; omega) | (simp; done)) | exact eqLevels_c _ _ _ _ _ _ _ _ (by first | assumption | exact RdL.app (by assumption) _ | exact RdL_hj rfl (by simp) | exact RdL_h0 rfl (by simp) | exact RdL_nil | exact RdL_emp) (by first | assumption | exact RdLL.app (by assumption) _) (by first | assumption | exact RdL.app (by assumption) _ | exact RdL_hj rfl (by simp) | exact RdL_h0 rfl (by simp) | exact RdL_nil | exact RdL_emp) (by first | assumption | exact RdLL.app (by assumption) _) (by first | assumption | omega | (simp; omega) | (simp; done)) | exact eqLv _ _ _ (by first | assumption | omega | (simp; omega) | (simp; done)) _ (by first | assumption | omega | (simp; omega) | (simp; done)) (by first | assumption | omega | (simp; omega) | (simp; done)) (by first | rfl | assumption | omega | (simp; done)) | exact markLevels_c _ _ _ (by first | assumption | omega | (simp; omega) | (simp; done)) _ _ (by first | rfl | assumption | omega | (simp; done)) (by first | assumption | omega | (simp; omega) | (simp; done)) (by first | assumption | omega | (simp; omega) | (simp; done)) | exact heldLevels_c _ _ _ _ _ (by first | assumption | omega | (simp; omega) | (simp; done)) (by first | rfl | assumption | omega | (simp; done)) (by first | assumption | omega | (simp; omega) | (simp; done)) (by first | assumption | omega | (simp; omega) | (simp; done))))
      | (clear hK K)
      | fail)
    all_goals try (exfalso; omega)
    all_goals (first | refine EndA_cut hcl (by first | exact Or.inr rfl | exact Or.inl rfl) (by simp only [Try.results3, resA, aresL, go_sem, reduceIte, reduceCtorEq, Nat.reduceAdd, Nat.reduceMul, Nat.reduceSub, Nat.reduceLeDiff, Nat.lt_irrefl, Nat.reduceLT, Nat.reduceEqDiff, Nat.reduceBEq, Int.reduceLE, Int.reduceLT, Int.reduceToNat, w64, eq_self] <;> rfl) rfl ?_ | refine EndA_same (by first | exact Or.inr rfl | exact Or.inl rfl) (by simp only [Try.results3, resA, aresL, go_sem, reduceIte, reduceCtorEq, Nat.reduceAdd, Nat.reduceMul, Nat.reduceSub, Nat.reduceLeDiff, Nat.lt_irrefl, Nat.reduceLT, Nat.reduceEqDiff, Nat.reduceBEq, Int.reduceLE, Int.reduceLT, Int.reduceToNat, w64, eq_self] <;> rfl) ?_)
    all_goals rfl
  have hs : szFF xss 1048576 = 1048576 - (totL xss : Nat) := if_neg hq
  have ht : totL xss ≤ 1048576 := by omega
  obtain ⟨ok, hok⟩ : ∃ ok, plOk r s xss y0v = ok := ⟨_, rfl⟩
  obtain ⟨R, hR⟩ : ∃ R, plS r s (putL (unw xss) (y0v.getD 0)) = R := ⟨_, rfl⟩
  have hst : totL (stX ok R) ≤ 1048576 := stX_tot r R ok fun e => by
    rw [e] at hok
    unfold plOk at hok
    rw [hR] at hok
    simp only [Bool.and_eq_true] at hok
    exact hok.2
  obtain ⟨S, hS⟩ : ∃ S, stX ok R = S := ⟨_, rfl⟩
  obtain ⟨r2, hr2⟩ : ∃ r2, (if ok then r else 0) = r2 := ⟨_, rfl⟩
  obtain ⟨s2, hs2⟩ : ∃ s2, (if ok then R.2 else 0) = s2 := ⟨_, rfl⟩
  rw [hS] at hst
  have hsl : S.length ≤ 1048576 := by unfold totL at hst; omega
  have hxl : xss.length ≤ 1048576 := by unfold totL at ht; omega
  -- the reference's answer
  obtain ⟨A1, Q1, K1, l1, q1, c1⟩ := toLevels_ex2 r s v L xss (H ++ [(⟨0, false, 24, 3, [.int .i64 r, .int .i64 s, v]⟩ : AO)]) (h.app _) (hL.app _) ht
  obtain ⟨H1, e1⟩ : ∃ H1, H ++ [(⟨0, false, 24, 3, [.int .i64 r, .int .i64 s, v]⟩ : AO)] ++ K1 = H1 := ⟨_, rfl⟩
  have p1 : PtL H1 H.length 0 [.int .i64 r, .int .i64 s, v] := by rw [← e1]; exact (PtL_h0 rfl).app _
  have n1 : H.length < H1.length := by rw [← e1]; simp only [List.length_append, List.length_cons, List.length_nil]; omega
  have b1 : ∃ K, H1 = H ++ K := ⟨_, by rw [← e1, List.append_assoc]⟩
  rw [e1] at l1 c1
  have x1 := l1.rd
  rw [(totQ_of q1).1] at x1
  have c2' := sPutLevels_c r s _ _ xss y0v H1 x1 (l1.rdl q1) ht
  rw [hok, hR] at c2'
  obtain ⟨Qw, K2, lw, qw, c2⟩ := plQ_ex c2'
  rw [hS] at qw
  rw [hS, hr2, hs2] at c2
  clear c2' x1 l1
  obtain ⟨H2, e2⟩ : ∃ H2, H1 ++ K2 = H2 := ⟨_, rfl⟩
  have p2 := p1.app K2
  have n2 : H1.length < H2.length := by rw [← e2]; exact lw.hi
  have b2 : ∃ K, H2 = H ++ K := by obtain ⟨K, e⟩ := b1; exact ⟨K ++ K2, by rw [← e2, e, List.append_assoc]⟩
  rw [e2] at lw c2 p2
  obtain ⟨WB, hWB⟩ : ∃ WB : AO, (⟨0, false, 27, 3, [.int .i64 r2, .int .i64 s2, .sl H1.length 0 0 S.length none]⟩ : AO) = WB := ⟨_, rfl⟩
  have lw' := lw.app (Nat.le_refl _) [WB]
  have p2' := p2.app [WB]
  have w2 : PtL (H2 ++ [WB]) H2.length 0 [.int .i64 r2, .int .i64 s2, .sl H1.length 0 0 S.length none] := by rw [← hWB]; exact PtL_h0 rfl
  have b2' : ∃ K, H2 ++ [WB] = H ++ K := by obtain ⟨K, e⟩ := b2; exact ⟨K ++ [WB], by rw [e, List.append_assoc]⟩
  have n2' : (H2 ++ [WB]).length = H2.length + 1 := by simp
  have rr : ∀ X : Hp, (∃ K, X = H ++ K) → RdL X v L ∧ RdLL X L xss := fun X ⟨K, e⟩ => by rw [e]; exact ⟨h.app _, hL.app _⟩
  -- the program's argument
  obtain ⟨A3, Q3, K3, l3, q3, c3⟩ := toLevels_ex2 r s v L xss (H2 ++ [WB]) (rr _ b2').1 (rr _ b2').2 ht
  obtain ⟨H3, e3⟩ : ∃ H3, H2 ++ [WB] ++ K3 = H3 := ⟨_, rfl⟩
  have p3 := p2'.app K3
  have w3 := w2.app K3
  have lw3 := lw'.app (by omega) K3
  have b3 : ∃ K, H3 = H ++ K := by obtain ⟨K, e⟩ := b2'; exact ⟨K ++ K3, by rw [← e3, e, List.append_assoc]⟩
  rw [e3] at p3 w3 lw3 l3 c3
  have n3 : H2.length + 1 < H3.length := by have := l3.hi; omega
  obtain ⟨XB, hXB⟩ : ∃ XB : AO, (⟨0, false, 27, 3, [.int .i64 r, .int .i64 s, .sl A3 0 0 xss.length none]⟩ : AO) = XB := ⟨_, rfl⟩
  have p3' := p3.app [XB]
  have w3' := w3.app [XB]
  have lw3' := lw3.app (by omega) [XB]
  have l3' := l3.app (Nat.le_refl _) [XB]
  have x3 : PtL (H3 ++ [XB]) H3.length 0 [.int .i64 r, .int .i64 s, .sl A3 0 0 xss.length none] := by rw [← hXB]; exact PtL_h0 rfl
  have b3' : ∃ K, H3 ++ [XB] = H ++ K := by obtain ⟨K, e⟩ := b3; exact ⟨K ++ [XB], by rw [e, List.append_assoc]⟩
  have n3' : (H3 ++ [XB]).length = H3.length + 1 := by simp
  -- the program's answer
  have y3 := l3'.rd
  rw [(totQ_of q3).1] at y3
  have c4' := iPutLevels_c r s _ _ xss y0v (H3 ++ [XB]) y3 (l3'.rdl q3) ht
  rw [hok, hR] at c4'
  obtain ⟨Qg, K4, lg, qg, c4⟩ := plQ_ex c4'
  rw [hS] at qg
  rw [hS, hr2, hs2] at c4
  clear c4' y3
  obtain ⟨H4, e4⟩ : ∃ H4, H3 ++ [XB] ++ K4 = H4 := ⟨_, rfl⟩
  have p4 := p3'.app K4
  have w4 := w3'.app K4
  have x4 := x3.app K4
  have lw4 := lw3'.app (by omega) K4
  have l4 := l3'.app (by omega) K4
  have b4 : ∃ K, H4 = H ++ K := by obtain ⟨K, e⟩ := b3'; exact ⟨K ++ K4, by rw [← e4, e, List.append_assoc]⟩
  rw [e4] at p4 w4 x4 lw4 l4 lg c4
  rw [n3'] at lg c4
  have n4 : H3.length + 1 < H4.length := lg.hi
  obtain ⟨GB, hGB⟩ : ∃ GB : AO, (⟨0, false, 27, 3, [.int .i64 r2, .int .i64 s2, .sl (H3.length + 1) 0 0 S.length none]⟩ : AO) = GB := ⟨_, rfl⟩
  have p4' := p4.app [GB]
  have w4' := w4.app [GB]
  have x4' := x4.app [GB]
  have lw4' := lw4.app (by omega) [GB]
  have l4' := l4.app (by omega) [GB]
  have lg' := lg.app (Nat.le_refl _) [GB]
  have g4 : PtL (H4 ++ [GB]) H4.length 0 [.int .i64 r2, .int .i64 s2, .sl (H3.length + 1) 0 0 S.length none] := by rw [← hGB]; exact PtL_h0 rfl
  have b4' : ∃ K, H4 ++ [GB] = H ++ K := by obtain ⟨K, e⟩ := b4; exact ⟨K ++ [GB], by rw [e, List.append_assoc]⟩
  have n4' : (H4 ++ [GB]).length = H4.length + 1 := by simp
  have c5 := eqLv r2 s2 lg' qg lw4' qw hst rfl
  -- the argument is as it was
  obtain ⟨A6, Q6, K6, l6, q6, c6⟩ := toLevels_ex2 r s v L xss (H4 ++ [GB]) (rr _ b4').1 (rr _ b4').2 ht
  obtain ⟨H5, e5⟩ : ∃ H5, H4 ++ [GB] ++ K6 = H5 := ⟨_, rfl⟩
  have p5 := p4'.app K6
  have w5 := w4'.app K6
  have x5 := x4'.app K6
  have g5 := g4.app K6
  have lw5 := lw4'.app (by omega) K6
  have l5 := l4'.app (by omega) K6
  have lg5 := lg'.app (by omega) K6
  have b5 : ∃ K, H5 = H ++ K := by obtain ⟨K, e⟩ := b4'; exact ⟨K ++ K6, by rw [← e5, e, List.append_assoc]⟩
  rw [e5] at p5 w5 x5 g5 lw5 l5 lg5 l6 c6
  have n5 : H4.length + 1 < H5.length := by have := l6.hi; omega
  have c7 := eqLv r s l5 q3 l6 q6 ht rfl
  -- the argument is marked
  obtain ⟨hQ3, hT3⟩ := totQ_of q3
  have c8 := markLevels_c r s l5 (by omega) 1 xss.length hQ3 hxl (by omega)
  have p6 := p5.mkO l5 1 (by omega)
  have w6 := w5.mkO l5 1 (by omega)
  have g6 := g5.mkO l5 1 (by omega)
  have lw6 := lw5.mkO l5 1 (by omega)
  have lg6 := lg5.mkO l5 1 (by omega)
  have b6 := pre_mk b5 l5 1 (by omega)
  have n6 := mkH_len H5 1 Q3 Q3.length
  obtain ⟨H6, e6⟩ : ∃ H6, mkH H5 1 Q3 Q3.length = H6 := ⟨_, rfl⟩
  rw [e6] at p6 w6 g6 lw6 lg6 b6 n6 c8
  have c9 := eqLv r2 s2 lg6 qg lw6 qw hst rfl
  -- the answer is marked
  obtain ⟨hQg, hTg⟩ := totQ_of qg
  have c10 := markLevels_c r2 s2 lg6 (by omega) 1 S.length hQg hsl (by omega)
  have p7 := p6.mkO lg6 1 (by omega)
  have w7 := w6.mkO lg6 1 (by omega)
  have g7 := g6.mkO lg6 1 (by omega)
  have lw7 := lw6.mkO lg6 1 (by omega)
  have lg7 := lg6.mkd 1
  have b7 := pre_mk b6 lg6 1 (by omega)
  have n7 := mkH_len H6 1 Qg Qg.length
  obtain ⟨H7, e7⟩ : ∃ H7, mkH H6 1 Qg Qg.length = H7 := ⟨_, rfl⟩
  rw [e7] at p7 w7 g7 lw7 lg7 b7 n7 c10
  have c11 := heldLevels_c r2 s2 1 S.length lg7 (by omega) hQg hsl (by omega)
  -- once more
  obtain ⟨A8, Q8, K8, l8, q8, c12⟩ := toLevels_ex2 r s v L xss H7 (rr _ b7).1 (rr _ b7).2 ht
  obtain ⟨H8, e8⟩ : ∃ H8, H7 ++ K8 = H8 := ⟨_, rfl⟩
  have w8 := w7.app K8
  have g8 := g7.app K8
  have lw8 := lw7.app (by omega) K8
  have lg8 := lg7.app (by omega) K8
  rw [e8] at w8 g8 lw8 lg8 l8 c12
  have n8 := l8.hi
  have y8 := l8.rd
  rw [(totQ_of q8).1] at y8
  have c13' := iPutLevels_c r s _ _ xss y0v H8 y8 (l8.rdl q8) ht
  rw [hok, hR] at c13'
  obtain ⟨Qh, K9, lh, qh, c13⟩ := plQ_ex c13'
  rw [hS] at qh
  rw [hS, hr2, hs2] at c13
  clear c13' y8
  obtain ⟨H9, e9⟩ : ∃ H9, H8 ++ K9 = H9 := ⟨_, rfl⟩
  have w9 := w8.app K9
  have g9 := g8.app K9
  have lw9 := lw8.app (by omega) K9
  have lg9 := lg8.app (by omega) K9
  rw [e9] at w9 g9 lw9 lg9 lh c13
  have n9 := lh.hi
  obtain ⟨HB, hHB⟩ : ∃ HB : AO, (⟨0, false, 27, 3, [.int .i64 r2, .int .i64 s2, .sl H8.length 0 0 S.length none]⟩ : AO) = HB := ⟨_, rfl⟩
  have w9' := w9.app [HB]
  have g9' := g9.app [HB]
  have lw9' := lw9.app (by omega) [HB]
  have lg9' := lg9.app (by omega) [HB]
  have lh' := lh.app (Nat.le_refl _) [HB]
  have n9' : (H9 ++ [HB]).length = H9.length + 1 := by simp
  have c14 := eqLv r2 s2 lh' qh lw9' qw hst rfl
  have c15 := heldLevels_c r2 s2 1 S.length lg9' (by omega) hQg hsl (by omega)
  have u1 := p2'.gets (n := 3) rfl
  have u2 := p4'.gets (n := 3) rfl
  have u3 := p7.gets (n := 3) rfl
  have u4 := w4'.gets (n := 3) rfl
  have u5 := w6.gets (n := 3) rfl
  have u6 := w9'.gets (n := 3) rfl
  have u7 := x4'.gets (n := 3) rfl
  have u8 := x5.gets (n := 3) rfl
  have u9 := g6.gets (n := 3) rfl
  have u10 := g7.gets (n := 3) rfl
  have u11 := g9'.gets (n := 3) rfl
  subst hWB
  subst hXB
  subst hGB
  subst hHB
  (refine FunH_body tyOk Try.func3 rfl (by kernel_rfl) Try.ntmps3 (fun hcl hbd => ?_); simp only [List.length_cons, List.length_nil, Nat.reduceAdd, Nat.reduceSub, List.replicate, List.cons_append, List.nil_append])
  repeat' (first
    | ((with_reducible refine hK _ _ ?_); clear hK K)
    | ((with_reducible refine hK _ ?_); clear hK K; try simp only [])
    | ((first | (with_reducible show AOp _ _ _ _ _ _ _) | (with_reducible show AQOp _ _ _ _ _ _ _)); simp (disch := first | ((with_reducible show liveO _ _ _ = true); first | assumption | (exact liveO_setS (by assumption)) | (exact PtL.live (by assumption)) | (exact PtL.liveA (by assumption) _) | (simp only [go_sem]; done)) | omega | assumption | rfl | (simp only [go_sem]; first | done | omega)) only [go_sem, reduceIte, reduceCtorEq, Nat.reduceAdd, Nat.reduceMul, Nat.reduceSub, Nat.reduceLeDiff, Nat.lt_irrefl, Nat.reduceLT, Nat.reduceEqDiff, Nat.reduceBEq, Int.reduceLE, Int.reduceLT, Int.reduceToNat, w64, eq_self, hs, u1, u2, u3, u4, u5, u6, u7, u8, u9, u10, u11, h.isCell, bne_self_eq_false, beq_self_eq_true])
    | (with_reducible refine AW_seq (fun K hK => ?_))
    | (with_reducible refine AW_region tyOk ?_)
    | ((with_reducible apply AW_tree (id := 10) tyOk 5); (kernel_rfl); (exact rfl))
    | ((with_reducible refine AAny_leaf (by decide +kernel) ?_); exact ⟨rfl, rfl⟩)
    | (with_reducible refine AAny_step 0 [1] (by decide +kernel) ?_)
    | (with_reducible refine AAny_step 0 [2] (by decide +kernel) ?_)
    | (with_reducible refine AAny_step 0 [] (by decide +kernel) ?_)
    | (with_reducible refine AAny_step 1 [] (by decide +kernel) ?_)
    | (with_reducible refine AAny_step 2 [] (by decide +kernel) ?_)
    | (with_reducible refine AAny_step 3 [] (by decide +kernel) ?_)
    | (with_reducible refine AAny_step 4 [] (by decide +kernel) ?_)
    | (with_reducible refine AAll_cons rfl (fun K hK => ?_) ?_)
    | (with_reducible exact AAll_nil)
    | ((with_reducible show thenA _ _ _ _ _); simp only [thenA, blockA, if_true, if_false, reduceIte])
    | (with_reducible refine AOps_cons (fun K hK => ?_))
    | (with_reducible refine AQOps_cons (fun K hK => ?_))
    | ((with_reducible refine AQOps_nil ?_); try simp only [thenA, blockA, if_true, if_false, reduceIte, Nat.reduceEqDiff, reduceCtorEq])
    | ((with_reducible refine AOps_nil ?_); try simp only [thenA, blockA, if_true, if_false, reduceIte, Nat.reduceEqDiff, reduceCtorEq])
    | (with_reducible refine AW_block ?_)
    | ((first | (with_reducible refine AW_ret ?_) | (with_reducible refine AW_skip ?_) | (with_reducible refine AW_exit ?_)); try simp only [thenA, blockA, if_true, if_false, reduceIte, Nat.reduceEqDiff, reduceCtorEq])
    | ((with_reducible show AW _ _ (.cond _ _ _) _ _ _); refine AW_cond rfl (fun hg => ?_) (fun hg => ?_) <;> first | (exfalso; simp only [reduceCtorEq] at hg; done) | ((try simp only [Bool.not_eq_true', Bool.not_eq_false', decide_eq_true_eq, decide_eq_false_iff_not] at hg); try (exfalso; omega)))
    | ((with_reducible show _ ∧ _); refine And.intro (fun hg => ?_) (fun hg => ?_) <;> (try simp only [Bool.not_eq_true', Bool.not_eq_false'] at hg) <;> simp only [hg] <;> (try simp only [decide_eq_true_eq, decide_eq_false_iff_not] at hg) <;> (try (exfalso; omega)))
    | ((first | (with_reducible apply FunH_intro) | (with_reducible apply AQ_intro)); (first | exact c1 | exact c2 | exact c3 | exact c4 | exact c5 | exact c6 | exact c7 | exact c8 | exact c9 | exact c10 | exact c11 | exact c12 | exact c13 | exact c14 | exact c15 | exact szLevels_c _ _ _ _ _ _ (by first | assumption | omega | (simp; omega) | (simp; done)) (by first | assumption | omega | (simp; omega) | (simp; done)) _ (by first | assumption | exact RdL.app (by assumption) _ | exact RdL_hj rfl (by simp) | exact RdL_h0 rfl (by simp) | exact RdL_nil | exact RdL_emp) (by first | assumption | exact RdLL.app (by assumption) _) (by first | assumption | omega | (simp; omega) | (simp; done)) (by first | assumption | (simp; done)) | exact sPutLevels_c _ _ _ _ _ _ _ (by first | assumption | exact RdL.app (by assumption) _ | exact RdL_hj rfl (by simp) | exact RdL_h0 rfl (by simp) | exact RdL_nil | exact RdL_emp) (by first | assumption | exact RdLL.app (by assumption) _) (by first | assumption | omega | (simp; omega) | (simp; done)) | exact iPutLevels_c _ _ _ _ _ _ _ (by first | assumption | exact RdL.app (by assumption) _ | exact RdL_hj rfl (by simp) | exact RdL_h0 rfl (by simp) | exact RdL_nil | exact RdL_emp) (by first | assumption | exact RdLL.app (by assumption) _) (by first | assumption | omega | (simp; omega) | (simp; done)) | exact eqLevels_c _ _ _ _ _ _ _ _ (by first | assumption | exact RdL.app (by assumption) _ | exact RdL_hj rfl (by simp) | exact RdL_h0 rfl (by simp) | exact RdL_nil | exact RdL_emp) (by first | assumption | exact RdLL.app (by assumption) _) (by first | assumption | exact RdL.app (by assumption) _ | exact RdL_hj rfl (by simp) | exact RdL_h0 rfl (by simp) | exact RdL_nil | exact RdL_emp) (by first | assumption | exact RdLL.app (by assumption) _) (by first | assumption | omega | (simp; omega) | (simp; done)) | exact eqLv _ _ _ (by first | assumption | omega | (simp; omega) | (simp; done)) _ (by first | assumption | omega | (simp; omega) | (simp; done)) (by first | assumption | omega | (simp; omega) | (simp; done)) (by first | rfl | assumption | omega | (simp; done)) | exact markLevels_c _ _ _ (by first | assumption | omega | (simp; omega) | (simp; done)) _ _ (by first | rfl | assumption | omega | (simp; done)) (by first | assumption | omega | (simp; omega) | (simp; done)) (by first | assumption | omega | (simp; omega) | (simp; done)) | exact heldLevels_c _ _ _ _ _ (by first | assumption | omega | (simp; omega) | (simp; done)) (by first | rfl | assumption | omega | (simp; done)) (by first | assumption | omega | (simp; omega) | (simp; done)) (by first | assumption | omega | (simp; omega) | (simp; done))))
    | (clear hK K)
    | fail)
  all_goals try (exfalso; first | omega | (simp at hg; done))
  all_goals (first | refine EndA_cut hcl (by first | exact Or.inr rfl | exact Or.inl rfl) (by simp only [Try.results3, resA, aresL, go_sem, reduceIte, reduceCtorEq, Nat.reduceAdd, Nat.reduceMul, Nat.reduceSub, Nat.reduceLeDiff, Nat.lt_irrefl, Nat.reduceLT, Nat.reduceEqDiff, Nat.reduceBEq, Int.reduceLE, Int.reduceLT, Int.reduceToNat, w64, eq_self] <;> rfl) rfl ?_ | refine EndA_same (by first | exact Or.inr rfl | exact Or.inl rfl) (by simp only [Try.results3, resA, aresL, go_sem, reduceIte, reduceCtorEq, Nat.reduceAdd, Nat.reduceMul, Nat.reduceSub, Nat.reduceLeDiff, Nat.lt_irrefl, Nat.reduceLT, Nat.reduceEqDiff, Nat.reduceBEq, Int.reduceLE, Int.reduceLT, Int.reduceToNat, w64, eq_self] <;> rfl) ?_)
  all_goals rfl
end Go.Proofs.Ytonlgkecphijoaa
