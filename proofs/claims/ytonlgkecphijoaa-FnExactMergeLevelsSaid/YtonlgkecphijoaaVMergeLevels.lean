/- The walk of the law FnExactMergeLevels in the abstract machine. -/
import Derived.Test.YtonlgkecphijoaaYn
import Derived.Test.YtonlgkecphijoaaYl
import Derived.Test.YtonlgkecphijoaaYm
import Derived.Test.YtonlgkecphijoaaNr
namespace Go.Proofs.Ytonlgkecphijoaa
open Go.RowKit
set_option linter.unusedSimpArgs false
set_option linter.unusedVariables false
set_option maxRecDepth 100000

theorem pre_app {H X : Hp} (h : ∃ K, X = H ++ K) (L : Hp) : ∃ K, X ++ L = H ++ K := by
  obtain ⟨K, e⟩ := h; exact ⟨K ++ L, by rw [e, List.append_assoc]⟩
set_option maxHeartbeats 16000000 in
theorem lawMergeLevels (r s : Int) (v : LV) (L : List LV) (xss : List (List (Option Nat))) (r2 s2 : Int) (v2 : LV) (L2 : List LV) (yss : List (List (Option Nat))) (H : Hp)
    (h : RdL H v L) (hL : RdLL H L xss) (hn : xss.length ≤ 9223372036854775807) (hg : goodF xss) (br : -9223372036854775808 ≤ r ∧ r ≤ 9223372036854775807) (bs : -9223372036854775808 ≤ s ∧ s ≤ 9223372036854775807)
    (h' : RdL H v2 L2) (hL' : RdLL H L2 yss) (hn' : yss.length ≤ 9223372036854775807) (hg' : goodF yss) (br' : -9223372036854775808 ≤ r2 ∧ r2 ≤ 9223372036854775807) (bs' : -9223372036854775808 ≤ s2 ∧ s2 ≤ 9223372036854775807) :
    FunH Try.prog 4 [.agg [.int .i64 r, .int .i64 s, v], .agg [.int .i64 r2, .int .i64 s2, v2]] H fun r H' => r = .bool true := by
  have hm : ∀ xs ∈ xss, xs.length ≤ 9223372036854775807 := fun xs hx => (hg xs hx).1
  have hm' : ∀ xs ∈ yss, xs.length ≤ 9223372036854775807 := fun xs hx => (hg' xs hx).1
  by_cases hq : (1048576 : Int) < (totL xss : Nat)
  · have hs : szFF xss 1048576 = -1 := if_pos hq
    (refine FunH_body tyOk Try.func4 rfl (by kernel_rfl) Try.ntmps4 (fun hcl hbd => ?_); simp only [List.length_cons, List.length_nil, Nat.reduceAdd, Nat.reduceSub, List.replicate, List.cons_append, List.nil_append])
    repeat' (first
 | ((with_reducible refine hK _ _ ?_); clear hK K)
 | ((first | (with_reducible show AOp _ _ _ _ _ _ _)); simp (disch := first | ((with_reducible show liveO _ _ _ = true); first | assumption | (exact liveO_setS (by assumption)) | (exact PtL.live (by assumption)) | (exact PtL.liveA (by assumption) _) | (simp only [go_sem]; done)) | omega | assumption | rfl | (simp only [go_sem]; first | done | omega)) only [go_sem, reduceIte, reduceCtorEq, Nat.reduceAdd, Nat.reduceMul, Nat.reduceSub, Nat.reduceLeDiff, Nat.lt_irrefl, Nat.reduceLT, Nat.reduceEqDiff, Nat.reduceBEq, Int.reduceLE, Int.reduceLT, Int.reduceToNat, w64, eq_self, hs, h.isCell, h'.isCell])
 | (with_reducible refine AW_seq (fun K hK => ?_))
 | (with_reducible refine AW_region tyOk ?_)
 | (with_reducible refine AOps_cons (fun K hK => ?_))
 | ((with_reducible refine AOps_nil ?_); try simp only [thenA, blockA, if_true, if_false, reduceIte, Nat.reduceEqDiff, reduceCtorEq])
 | (with_reducible refine AW_block ?_)
 | ((first | (with_reducible refine AW_ret ?_) | (with_reducible refine AW_skip ?_) | (with_reducible refine AW_exit ?_)); try simp only [thenA, blockA, if_true, if_false, reduceIte, Nat.reduceEqDiff, reduceCtorEq])
 | ((with_reducible show AW _ _ (.cond _ _ _) _ _ _); refine AW_cond rfl (fun hg => ?_) (fun hg => ?_) <;> first | (exfalso; simp only [reduceCtorEq] at hg; done) | ((try simp only [Bool.not_eq_true', Bool.not_eq_false', decide_eq_true_eq, decide_eq_false_iff_not] at hg); try (exfalso; omega)))
 | ((with_reducible show _ ∧ _); refine And.intro (fun hg => ?_) (fun hg => ?_) <;> (try simp only [Bool.not_eq_true', Bool.not_eq_false'] at hg) <;> simp only [hg] <;> (try simp only [decide_eq_true_eq, decide_eq_false_iff_not] at hg) <;> (try (exfalso; omega)))
 | ((with_reducible apply FunH_intro); (first | ((with_reducible show FunH _ 5 _ _ _); exact szLevels_c r s v L xss 1048576 (by omega) (by omega) _ (h.app _) (hL.app _) hn hm)))
 | (clear hK K)
      | fail)
    all_goals try (exfalso; omega)
    all_goals (first | refine EndA_cut hcl (by first | exact Or.inr rfl | exact Or.inl rfl) (by simp only [Try.results4, resA, aresL, go_sem, reduceIte, reduceCtorEq, Nat.reduceAdd, Nat.reduceMul, Nat.reduceSub, Nat.reduceLeDiff, Nat.lt_irrefl, Nat.reduceLT, Nat.reduceEqDiff, Nat.reduceBEq, Int.reduceLE, Int.reduceLT, Int.reduceToNat, w64, eq_self] <;> rfl) rfl ?_ | refine EndA_same (by first | exact Or.inr rfl | exact Or.inl rfl) (by simp only [Try.results4, resA, aresL, go_sem, reduceIte, reduceCtorEq, Nat.reduceAdd, Nat.reduceMul, Nat.reduceSub, Nat.reduceLeDiff, Nat.lt_irrefl, Nat.reduceLT, Nat.reduceEqDiff, Nat.reduceBEq, Int.reduceLE, Int.reduceLT, Int.reduceToNat, w64, eq_self] <;> rfl) ?_)
    all_goals rfl
  have hs : szFF xss 1048576 = 1048576 - (totL xss : Nat) := if_neg hq
  have ht : totL xss ≤ 1048576 := by omega
  obtain ⟨lf, hlf⟩ : ∃ lf : Int, 1048576 - (totL xss : Nat) = lf := ⟨_, rfl⟩
  rw [hlf] at hs
  have hsz := fun K => szLevels_c r2 s2 v2 L2 yss lf (by omega) (by omega) (H ++ K) (h'.app K) (hL'.app K) hn' hm'
  by_cases hq2 : lf < (totL yss : Nat)
  · have hs2 : szFF yss lf = -1 := if_pos hq2
    (refine FunH_body tyOk Try.func4 rfl (by kernel_rfl) Try.ntmps4 (fun hcl hbd => ?_); simp only [List.length_cons, List.length_nil, Nat.reduceAdd, Nat.reduceSub, List.replicate, List.cons_append, List.nil_append])
    repeat' (first
 | ((with_reducible refine hK _ _ ?_); clear hK K)
 | ((first | (with_reducible show AOp _ _ _ _ _ _ _)); simp (disch := first | ((with_reducible show liveO _ _ _ = true); first | assumption | (exact liveO_setS (by assumption)) | (exact PtL.live (by assumption)) | (exact PtL.liveA (by assumption) _) | (simp only [go_sem]; done)) | omega | assumption | rfl | (simp only [go_sem]; first | done | omega)) only [go_sem, reduceIte, reduceCtorEq, Nat.reduceAdd, Nat.reduceMul, Nat.reduceSub, Nat.reduceLeDiff, Nat.lt_irrefl, Nat.reduceLT, Nat.reduceEqDiff, Nat.reduceBEq, Int.reduceLE, Int.reduceLT, Int.reduceToNat, w64, eq_self, hs, hs2, h.isCell, h'.isCell])
 | (with_reducible refine AW_seq (fun K hK => ?_))
 | (with_reducible refine AW_region tyOk ?_)
 | (with_reducible refine AOps_cons (fun K hK => ?_))
 | ((with_reducible refine AOps_nil ?_); try simp only [thenA, blockA, if_true, if_false, reduceIte, Nat.reduceEqDiff, reduceCtorEq])
 | (with_reducible refine AW_block ?_)
 | ((first | (with_reducible refine AW_ret ?_) | (with_reducible refine AW_skip ?_) | (with_reducible refine AW_exit ?_)); try simp only [thenA, blockA, if_true, if_false, reduceIte, Nat.reduceEqDiff, reduceCtorEq])
 | ((with_reducible show AW _ _ (.cond _ _ _) _ _ _); refine AW_cond rfl (fun hg => ?_) (fun hg => ?_) <;> first | (exfalso; simp only [reduceCtorEq] at hg; done) | ((try simp only [Bool.not_eq_true', Bool.not_eq_false', decide_eq_true_eq, decide_eq_false_iff_not] at hg); try (exfalso; omega)))
 | ((with_reducible show _ ∧ _); refine And.intro (fun hg => ?_) (fun hg => ?_) <;> (try simp only [Bool.not_eq_true', Bool.not_eq_false'] at hg) <;> simp only [hg] <;> (try simp only [decide_eq_true_eq, decide_eq_false_iff_not] at hg) <;> (try (exfalso; omega)))
 | ((with_reducible apply FunH_intro); (first | ((with_reducible show FunH _ 5 _ _ _); exact szLevels_c r s v L xss 1048576 (by omega) (by omega) _ (h.app _) (hL.app _) hn hm) | ((with_reducible show FunH _ 5 _ _ _); exact hsz _)))
 | (clear hK K)
      | fail)
    all_goals try (exfalso; omega)
    all_goals (first | refine EndA_cut hcl (by first | exact Or.inr rfl | exact Or.inl rfl) (by simp only [Try.results4, resA, aresL, go_sem, reduceIte, reduceCtorEq, Nat.reduceAdd, Nat.reduceMul, Nat.reduceSub, Nat.reduceLeDiff, Nat.lt_irrefl, Nat.reduceLT, Nat.reduceEqDiff, Nat.reduceBEq, Int.reduceLE, Int.reduceLT, Int.reduceToNat, w64, eq_self] <;> rfl) rfl ?_ | refine EndA_same (by first | exact Or.inr rfl | exact Or.inl rfl) (by simp only [Try.results4, resA, aresL, go_sem, reduceIte, reduceCtorEq, Nat.reduceAdd, Nat.reduceMul, Nat.reduceSub, Nat.reduceLeDiff, Nat.lt_irrefl, Nat.reduceLT, Nat.reduceEqDiff, Nat.reduceBEq, Int.reduceLE, Int.reduceLT, Int.reduceToNat, w64, eq_self] <;> rfl) ?_)
    all_goals rfl
  have hs2 : szFF yss lf = lf - (totL yss : Nat) := if_neg hq2
  have ht2 : totL yss ≤ 1048576 := by omega
  obtain ⟨ok, hok⟩ : ∃ ok, mlOk r s r2 s2 xss yss = ok := ⟨_, rfl⟩
  obtain ⟨R, hR⟩ : ∃ R, plS r s (mgS (unw xss) (unw yss) yss.length) = R := ⟨_, rfl⟩
  have hst : totL (stX ok R) ≤ 1048576 := stX_tot r R ok fun e => by
    rw [e] at hok
    unfold mlOk at hok
    rw [hR] at hok
    simp only [Bool.and_eq_true] at hok
    exact hok.2
  obtain ⟨S, hS⟩ : ∃ S, stX ok R = S := ⟨_, rfl⟩
  obtain ⟨r3, hr3⟩ : ∃ r3, (if ok then r else 0) = r3 := ⟨_, rfl⟩
  obtain ⟨s3, hs3⟩ : ∃ s3, (if ok then R.2 else 0) = s3 := ⟨_, rfl⟩
  rw [hS] at hst
  have hsl : S.length ≤ 1048576 := by unfold totL at hst; omega
  have hxl : xss.length ≤ 1048576 := by unfold totL at ht; omega
  have hyl : yss.length ≤ 1048576 := by unfold totL at ht2; omega
  have rr : ∀ X : Hp, (∃ K, X = H ++ K) → RdL X v L ∧ RdLL X L xss ∧ RdL X v2 L2 ∧ RdLL X L2 yss := fun X ⟨K, e⟩ => by rw [e]; exact ⟨h.app _, hL.app _, h'.app _, hL'.app _⟩
  obtain ⟨BA, hBA⟩ : ∃ B : AO, (⟨0, false, 24, 3, [.int .i64 r, .int .i64 s, v]⟩ : AO) = B := ⟨_, rfl⟩
  obtain ⟨BB, hBB⟩ : ∃ B : AO, (⟨0, false, 24, 3, [.int .i64 r2, .int .i64 s2, v2]⟩ : AO) = B := ⟨_, rfl⟩
  obtain ⟨A1, Q1, G1, q1, g1, t1⟩ := toLevels_exN (H.length + 3) r s v L xss ht
  have l1 := fun o : AO => (t1 (H ++ [BA, BB, o]) (by simp) (h.app _) (hL.app _)).1
  have c1 := fun o : AO => (t1 (H ++ [BA, BB, o]) (by simp) (h.app _) (hL.app _)).2
  simp only [List.append_assoc, List.cons_append, List.nil_append] at l1 c1
  obtain ⟨A2, Q2, K2, q2, g2, t2⟩ := toLevels_exN (H.length + 3 + G1.length) r2 s2 v2 L2 yss ht2
  have l2 := fun o : AO => (t2 (H ++ (BA :: BB :: o :: G1)) (by simp; omega) (h'.app _) (hL'.app _)).1
  have c2 := fun o : AO => (t2 (H ++ (BA :: BB :: o :: G1)) (by simp; omega) (h'.app _) (hL'.app _)).2
  have l1b := fun o : AO => (l1 o).app (Nat.le_refl _) K2
  simp only [List.append_assoc, List.cons_append] at l2 c2 l1b
  obtain ⟨G2, hG2⟩ : ∃ G2, G1 ++ K2 = G2 := ⟨_, rfl⟩
  have gl2 : G2.length = G1.length + K2.length := by rw [← hG2, List.length_append]
  simp only [hG2] at l2 c2 l1b
  obtain ⟨Qw, K3, qw, g3, t3⟩ := plQ_exN (H.length + 3 + G2.length) r ok R
  have t3' := fun o : AO => t3 12 [.agg [.int .i64 r, .int .i64 s, .sl A1 0 0 xss.length none], .agg [.int .i64 r2, .int .i64 s2, .sl A2 0 0 yss.length none]] (H ++ (BA :: BB :: o :: G2)) (by simp; omega) (by
    have x1 := (l1b o).rd
    have x2 := (l2 o).rd
    rw [(totQ_of q1).1] at x1
    rw [(totQ_of q2).1] at x2
    have := sMergeLevels_c r s r2 s2 _ _ _ _ xss yss _ x1 ((l1b o).rdl q1) ht x2 ((l2 o).rdl q2) ht2
    rw [hok, hR] at this; exact this)
  rw [hS] at qw
  rw [hS, hr3, hs3] at t3'
  have lw := fun o => (t3' o).1
  have c3 := fun o => (t3' o).2
  clear t3' t3 t2 t1 l1 l1b l2
  simp only [List.append_assoc, List.cons_append] at lw c3
  obtain ⟨G3, hG3⟩ : ∃ G3, G2 ++ K3 = G3 := ⟨_, rfl⟩
  have gl3 : G3.length = G2.length + K3.length := by rw [← hG3, List.length_append]
  simp only [hG3] at lw c3
  obtain ⟨n3, hn3⟩ : ∃ n3, H.length + 3 + G2.length = n3 := ⟨_, rfl⟩
  rw [hn3] at c3
  simp only [hn3] at lw
  obtain ⟨WB, hWB⟩ : ∃ WB : AO, (⟨1, false, 27, 3, [.int .i64 r3, .int .i64 s3, .sl n3 0 0 S.length none]⟩ : AO) = WB := ⟨_, rfl⟩
  have lw4 := lw WB
  clear lw
  have pa4 : PtL (H ++ (BA :: BB :: WB :: G3)) H.length 0 [.int .i64 r, .int .i64 s, v] := by rw [← hBA]; exact PtL_h0 rfl
  have pb4 : PtL (H ++ (BA :: BB :: WB :: G3)) (H.length + 1) 0 [.int .i64 r2, .int .i64 s2, v2] := by rw [← hBB]; exact PtL_hj rfl
  have w4 : PtL (H ++ (BA :: BB :: WB :: G3)) (H.length + 2) 1 [.int .i64 r3, .int .i64 s3, .sl n3 0 0 S.length none] := by rw [← hWB]; exact PtL_hj rfl
  have b4 : ∃ K, H ++ (BA :: BB :: WB :: G3) = H ++ K := ⟨_, rfl⟩
  have n4 : (H ++ (BA :: BB :: WB :: G3)).length = H.length + 3 + G3.length := by simp; omega
  obtain ⟨H4, e4⟩ : ∃ H4, H ++ (BA :: BB :: WB :: G3) = H4 := ⟨_, rfl⟩
  rw [e4] at lw4 pa4 pb4 w4 b4 n4
  obtain ⟨A5, Q5, K5, l5, q5, c4⟩ := toLevels_ex2 r s v L xss H4 (rr _ b4).1 (rr _ b4).2.1 ht
  have n5' := l5.hi
  have pa5 := pa4.app K5
  have pb5 := pb4.app K5
  have w5 := w4.app K5
  have lw5 := lw4.app (by omega) K5
  have b5 : ∃ K, H4 ++ K5 = H ++ K := pre_app b4 _
  obtain ⟨H5, e5⟩ : ∃ H5, H4 ++ K5 = H5 := ⟨_, rfl⟩
  rw [e5] at l5 c4 pa5 pb5 w5 lw5 b5 n5'
  obtain ⟨XA, hXA⟩ : ∃ XB : AO, (⟨0, false, 27, 3, [.int .i64 r, .int .i64 s, .sl A5 0 0 xss.length none]⟩ : AO) = XB := ⟨_, rfl⟩
  have xa5 : PtL (H5 ++ [XA]) H5.length 0 [.int .i64 r, .int .i64 s, .sl A5 0 0 xss.length none] := by rw [← hXA]; exact PtL_h0 rfl
  have pa5' := pa5.app [XA]
  have pb5' := pb5.app [XA]
  have w5' := w5.app [XA]
  have lw5' := lw5.app (by omega) [XA]
  have l5' := l5.app (Nat.le_refl _) [XA]
  have b5' : ∃ K, H5 ++ [XA] = H ++ K := pre_app b5 _
  have n5 : (H5 ++ [XA]).length = H5.length + 1 := by simp
  obtain ⟨A6, Q6, K6, l6, q6, c5⟩ := toLevels_ex2 r2 s2 v2 L2 yss (H5 ++ [XA]) (rr _ b5').2.2.1 (rr _ b5').2.2.2 ht2
  have n6' := l6.hi
  have pa6 := pa5'.app K6
  have pb6 := pb5'.app K6
  have w6 := w5'.app K6
  have xa6 := xa5.app K6
  have lw6 := lw5'.app (by omega) K6
  have l56 := l5'.app (by omega) K6
  have b6 : ∃ K, H5 ++ [XA] ++ K6 = H ++ K := pre_app b5' _
  obtain ⟨H6, e6⟩ : ∃ H6, H5 ++ [XA] ++ K6 = H6 := ⟨_, rfl⟩
  rw [e6] at l6 c5 pa6 pb6 w6 xa6 lw6 l56 b6 n6'
  rw [n5] at l6 n6'
  obtain ⟨XB, hXB⟩ : ∃ XB : AO, (⟨0, false, 27, 3, [.int .i64 r2, .int .i64 s2, .sl A6 0 0 yss.length none]⟩ : AO) = XB := ⟨_, rfl⟩
  have xb6 : PtL (H6 ++ [XB]) H6.length 0 [.int .i64 r2, .int .i64 s2, .sl A6 0 0 yss.length none] := by rw [← hXB]; exact PtL_h0 rfl
  have pa6' := pa6.app [XB]
  have pb6' := pb6.app [XB]
  have w6' := w6.app [XB]
  have xa6' := xa6.app [XB]
  have lw6' := lw6.app (by omega) [XB]
  have l56' := l56.app (by omega) [XB]
  have l6' := l6.app (Nat.le_refl _) [XB]
  have b6' : ∃ K, H6 ++ [XB] = H ++ K := pre_app b6 _
  have n6 : (H6 ++ [XB]).length = H6.length + 1 := by simp
  have y5 := l56'.rd
  have y6 := l6'.rd
  rw [(totQ_of q5).1] at y5
  rw [(totQ_of q6).1] at y6
  have c6' := iMergeLevels_c r s r2 s2 _ _ _ _ xss yss (H6 ++ [XB]) y5 (l56'.rdl q5) ht y6 (l6'.rdl q6) ht2
  rw [hok, hR] at c6'
  obtain ⟨Qg, K7, lg, qg, c6⟩ := plQ_ex c6'
  rw [hS] at qg
  rw [hS, hr3, hs3] at c6
  clear c6' y5 y6
  have n7' := lg.hi
  have pa7 := pa6'.app K7
  have pb7 := pb6'.app K7
  have w7 := w6'.app K7
  have xa7 := xa6'.app K7
  have xb7 := xb6.app K7
  have lw7 := lw6'.app (by omega) K7
  have l57 := l56'.app (by omega) K7
  have l67 := l6'.app (by omega) K7
  have b7 : ∃ K, H6 ++ [XB] ++ K7 = H ++ K := pre_app b6' _
  obtain ⟨H7, e7⟩ : ∃ H7, H6 ++ [XB] ++ K7 = H7 := ⟨_, rfl⟩
  rw [e7] at lg c6 pa7 pb7 w7 xa7 xb7 lw7 l57 l67 b7 n7'
  rw [n6] at lg c6 n7'
  obtain ⟨GB, hGB⟩ : ∃ GB : AO, (⟨0, false, 27, 3, [.int .i64 r3, .int .i64 s3, .sl (H6.length + 1) 0 0 S.length none]⟩ : AO) = GB := ⟨_, rfl⟩
  have gb7 : PtL (H7 ++ [GB]) H7.length 0 [.int .i64 r3, .int .i64 s3, .sl (H6.length + 1) 0 0 S.length none] := by rw [← hGB]; exact PtL_h0 rfl
  have pa7' := pa7.app [GB]
  have pb7' := pb7.app [GB]
  have w7' := w7.app [GB]
  have xa7' := xa7.app [GB]
  have xb7' := xb7.app [GB]
  have lw7' := lw7.app (by omega) [GB]
  have l57' := l57.app (by omega) [GB]
  have l67' := l67.app (by omega) [GB]
  have lg7' := lg.app (Nat.le_refl _) [GB]
  have b7' : ∃ K, H7 ++ [GB] = H ++ K := pre_app b7 _
  have n7 : (H7 ++ [GB]).length = H7.length + 1 := by simp
  have c7 := eqLv r3 s3 lg7' qg lw7' qw hst rfl
  obtain ⟨A8, Q8, K8, l8, q8, c8⟩ := toLevels_ex2 r s v L xss (H7 ++ [GB]) (rr _ b7').1 (rr _ b7').2.1 ht
  have n8' := l8.hi
  have pa8 := pa7'.app K8
  have pb8 := pb7'.app K8
  have w8 := w7'.app K8
  have xa8 := xa7'.app K8
  have xb8 := xb7'.app K8
  have gb8 := gb7.app K8
  have lw8 := lw7'.app (by omega) K8
  have l58 := l57'.app (by omega) K8
  have l68 := l67'.app (by omega) K8
  have lg8 := lg7'.app (by omega) K8
  have b8 : ∃ K, H7 ++ [GB] ++ K8 = H ++ K := pre_app b7' _
  obtain ⟨H8, e8⟩ : ∃ H8, H7 ++ [GB] ++ K8 = H8 := ⟨_, rfl⟩
  rw [e8] at l8 c8 pa8 pb8 w8 xa8 xb8 gb8 lw8 l58 l68 lg8 b8 n8'
  rw [n7] at n8'
  have c9 := eqLv r s l58 q5 l8 q8 ht rfl
  obtain ⟨A9, Q9, K9, l9, q9, c10⟩ := toLevels_ex2 r2 s2 v2 L2 yss H8 (rr _ b8).2.2.1 (rr _ b8).2.2.2 ht2
  have n9' := l9.hi
  have pa9 := pa8.app K9
  have pb9 := pb8.app K9
  have w9 := w8.app K9
  have xa9 := xa8.app K9
  have xb9 := xb8.app K9
  have gb9 := gb8.app K9
  have lw9 := lw8.app (by omega) K9
  have l59 := l58.app (by omega) K9
  have l69 := l68.app (by omega) K9
  have lg9 := lg8.app (by omega) K9
  have b9 : ∃ K, H8 ++ K9 = H ++ K := pre_app b8 _
  obtain ⟨H9, e9⟩ : ∃ H9, H8 ++ K9 = H9 := ⟨_, rfl⟩
  rw [e9] at l9 c10 pa9 pb9 w9 xa9 xb9 gb9 lw9 l59 l69 lg9 b9 n9'
  have c11 := eqLv r2 s2 l69 q6 l9 q9 ht2 rfl
  obtain ⟨hQ5, hT5⟩ := totQ_of q5
  obtain ⟨hQ6, hT6⟩ := totQ_of q6
  have c12 := markLevels_c r s l59 (by omega) 1 xss.length hQ5 hxl (by omega)
  have pa10 := pa9.mkO l59 1 (by omega)
  have pb10 := pb9.mkO l59 1 (by omega)
  have w10 := w9.mkO l59 1 (by omega)
  have xb10 := xb9.mkO l59 1 (by omega)
  have gb10 := gb9.mkO l59 1 (by omega)
  have lw10 := lw9.mkO l59 1 (by omega)
  have l610 := l69.mkO l59 1 (by omega)
  have lg10 := lg9.mkO l59 1 (by omega)
  have b10 := pre_mk b9 l59 1 (by omega)
  have n10 := mkH_len H9 1 Q5 Q5.length
  obtain ⟨H10, e10⟩ : ∃ H10, mkH H9 1 Q5 Q5.length = H10 := ⟨_, rfl⟩
  rw [e10] at c12 pa10 pb10 w10 xb10 gb10 lw10 l610 lg10 b10 n10
  obtain ⟨k2, hk2⟩ : ∃ k2, 1 + totQ Q5 = k2 := ⟨_, rfl⟩
  rw [hk2] at c12
  have c13 := markLevels_c r2 s2 l610 (by omega) k2 yss.length hQ6 hyl (by omega)
  have pa11 := pa10.mkO l610 k2 (by omega)
  have pb11 := pb10.mkO l610 k2 (by omega)
  have w11 := w10.mkO l610 k2 (by omega)
  have gb11 := gb10.mkO l610 k2 (by omega)
  have lw11 := lw10.mkO l610 k2 (by omega)
  have lg11 := lg10.mkO l610 k2 (by omega)
  have b11 := pre_mk b10 l610 k2 (by omega)
  have n11 := mkH_len H10 k2 Q6 Q6.length
  obtain ⟨H11, e11⟩ : ∃ H11, mkH H10 k2 Q6 Q6.length = H11 := ⟨_, rfl⟩
  rw [e11] at c13 pa11 pb11 w11 gb11 lw11 lg11 b11 n11
  obtain ⟨k3, hk3⟩ : ∃ k3, k2 + totQ Q6 = k3 := ⟨_, rfl⟩
  rw [hk3] at c13
  have c14 := eqLv r3 s3 lg11 qg lw11 qw hst rfl
  obtain ⟨hQg, hTg⟩ := totQ_of qg
  have c15 := markLevels_c r3 s3 lg11 (by omega) 1 S.length hQg hsl (by omega)
  have pa12 := pa11.mkO lg11 1 (by omega)
  have pb12 := pb11.mkO lg11 1 (by omega)
  have w12 := w11.mkO lg11 1 (by omega)
  have gb12 := gb11.mkO lg11 1 (by omega)
  have lw12 := lw11.mkO lg11 1 (by omega)
  have lg12 := lg11.mkd 1
  have b12 := pre_mk b11 lg11 1 (by omega)
  have n12 := mkH_len H11 1 Qg Qg.length
  obtain ⟨H12, e12⟩ : ∃ H12, mkH H11 1 Qg Qg.length = H12 := ⟨_, rfl⟩
  rw [e12] at c15 pa12 pb12 w12 gb12 lw12 lg12 b12 n12
  have c16 := heldLevels_c r3 s3 1 S.length lg12 (by omega) hQg hsl (by omega)
  have u1 := pa5.gets (n := 3) rfl
  have u2 := pb5'.gets (n := 3) rfl
  have u3 := xa6'.gets (n := 3) rfl
  have u4 := w7'.gets (n := 3) rfl
  have u5 := xa7'.gets (n := 3) rfl
  have u6 := pa7'.gets (n := 3) rfl
  have u7 := xa8.gets (n := 3) rfl
  have u8 := xb8.gets (n := 3) rfl
  have u9 := pb8.gets (n := 3) rfl
  have u10 := xb9.gets (n := 3) rfl
  have u11 := xa9.gets (n := 3) rfl
  have u12 := xb10.gets (n := 3) rfl
  have u13 := gb11.gets (n := 3) rfl
  have u14 := w11.gets (n := 3) rfl
  have u15 := gb12.gets (n := 3) rfl
  have rr12 := rr _ b12
  clear rr
  clear pa4 pb4 w4 lw4 b4 pa5 w5 lw5 l5 b5 pa5' pb5' w5' lw5' l5' b5' l6 l56 xa5 xa6 pa6 pb6 w6 lw6 b6 pa6' pb6' w6' lw6' l56' l6' xb6 xa6' b6'
  clear pa7 pb7 w7 xa7 xb7 lw7 l57 l67 b7 pa7' pb7' w7' xa7' xb7' lw7' l57' l67' lg7' b7' gb7 pa8 pb8 w8 xa8 xb8 gb8 lw8 l58 l68 lg8 b8 pa9 pb9 w9 xa9 xb9 gb9 lw9 l59 l69 lg9 b9 pa10 pb10 w10 xb10 gb10 lw10 l610 lg10 b10 pa11 pb11 w11 gb11 lw11 lg11 b11 l8 l9 pb5 lg
  subst e4
  subst hBA
  subst hBB
  subst hWB
  subst hXA
  subst hXB
  subst hGB
  (refine FunH_body tyOk Try.func4 rfl (by kernel_rfl) Try.ntmps4 (fun hcl hbd => ?_); simp only [List.length_cons, List.length_nil, Nat.reduceAdd, Nat.reduceSub, List.replicate, List.cons_append, List.nil_append])
  repeat' (first
 | ((with_reducible refine hK _ _ ?_); clear hK K)
 | ((with_reducible refine hK _ ?_); clear hK K; try simp only [])
 | ((with_reducible refine hK _ _ ?_ ?_); (first | exact Or.inl rfl | exact Or.inr (fun _ => by (first | exact ⟨_, rfl⟩ | exact ⟨_, by rw [List.append_assoc]; rfl⟩ | exact ⟨_, by simp only [List.append_assoc, List.cons_append, List.nil_append]; rfl⟩ | exact ⟨_, by rw [hp_setj, List.append_assoc]; rfl⟩ | exact ⟨_, hp_setj _ _ _ _⟩ | exact ⟨[], (List.append_nil _).symm⟩))); clear hK K)
 | ((first | (with_reducible show AOp _ _ _ _ _ _ _) | (with_reducible show AQOp _ _ _ _ _ _ _)); simp (disch := first | ((with_reducible show liveO _ _ _ = true); first | assumption | (exact liveO_setS (by assumption)) | (exact PtL.live (by assumption)) | (exact PtL.liveA (by assumption) _) | (simp only [go_sem]; done)) | omega | assumption | rfl | (simp only [go_sem]; first | done | omega)) only [go_sem, reduceIte, reduceCtorEq, Nat.reduceAdd, Nat.reduceMul, Nat.reduceSub, Nat.reduceLeDiff, Nat.lt_irrefl, Nat.reduceLT, Nat.reduceEqDiff, Nat.reduceBEq, Int.reduceLE, Int.reduceLT, Int.reduceToNat, w64, eq_self, hs, hs2, u1, u2, u3, u4, h.isCell, h'.isCell, bne_self_eq_false, beq_self_eq_true])
 | ((with_reducible refine AW_seqN [14] ?_ (fun K hK => ?_)); (exact rfl))
 | (with_reducible refine AW_region tyOk ?_)
 | ((with_reducible apply AW_treeV (id := 8) tyOk 11 [(8, H.length + 2)] [(27, 3)] [9, 10]); (kernel_rfl); (exact rfl); simp only [List.map_cons, List.map_nil, List.append_assoc, List.cons_append, List.nil_append])
 | ((with_reducible refine AAnyR_leaf (by decide +kernel) ?_); (with_reducible exact Wk.refl))
 | ((with_reducible refine AAnyR_quiet 0 rfl rfl ?_ (by decide +kernel) (by decide +kernel) (by decide +kernel) (by decide +kernel) (by (first | exact ⟨_, rfl⟩ | exact ⟨_, by rw [List.append_assoc]; rfl⟩ | exact ⟨_, by simp only [List.append_assoc, List.cons_append, List.nil_append]; rfl⟩ | exact ⟨_, by rw [hp_setj, List.append_assoc]; rfl⟩ | exact ⟨_, hp_setj _ _ _ _⟩ | exact ⟨[], (List.append_nil _).symm⟩)) (fun K hK => ?_)); (exact rfl))
 | ((with_reducible refine AAnyR_quiet 2 rfl rfl ?_ (by decide +kernel) (by decide +kernel) (by decide +kernel) (by decide +kernel) (by (first | exact ⟨_, rfl⟩ | exact ⟨_, by rw [List.append_assoc]; rfl⟩ | exact ⟨_, by simp only [List.append_assoc, List.cons_append, List.nil_append]; rfl⟩ | exact ⟨_, by rw [hp_setj, List.append_assoc]; rfl⟩ | exact ⟨_, hp_setj _ _ _ _⟩ | exact ⟨[], (List.append_nil _).symm⟩)) (fun K hK => ?_)); (exact rfl))
 | ((with_reducible refine AAnyR_quiet 5 rfl rfl ?_ (by decide +kernel) (by decide +kernel) (by decide +kernel) (by decide +kernel) (by (first | exact ⟨_, rfl⟩ | exact ⟨_, by rw [List.append_assoc]; rfl⟩ | exact ⟨_, by simp only [List.append_assoc, List.cons_append, List.nil_append]; rfl⟩ | exact ⟨_, by rw [hp_setj, List.append_assoc]; rfl⟩ | exact ⟨_, hp_setj _ _ _ _⟩ | exact ⟨[], (List.append_nil _).symm⟩)) (fun K hK => ?_)); (exact rfl))
 | ((with_reducible refine AAnyR_quiet 6 rfl rfl ?_ (by decide +kernel) (by decide +kernel) (by decide +kernel) (by decide +kernel) (by (first | exact ⟨_, rfl⟩ | exact ⟨_, by rw [List.append_assoc]; rfl⟩ | exact ⟨_, by simp only [List.append_assoc, List.cons_append, List.nil_append]; rfl⟩ | exact ⟨_, by rw [hp_setj, List.append_assoc]; rfl⟩ | exact ⟨_, hp_setj _ _ _ _⟩ | exact ⟨[], (List.append_nil _).symm⟩)) (fun K hK => ?_)); (exact rfl))
 | (with_reducible refine AAnyR_step 1 [8] (by decide +kernel) ?_)
 | (with_reducible refine AAnyR_step 3 [8] (by decide +kernel) ?_)
 | (with_reducible refine AAnyR_step 4 [8] (by decide +kernel) ?_)
 | (with_reducible refine AAnyR_step 7 [8] (by decide +kernel) ?_)
 | (with_reducible refine AAnyR_step 7 [9] (by decide +kernel) ?_)
 | (with_reducible refine AAnyR_step 1 [] (by decide +kernel) ?_)
 | (with_reducible refine AAnyR_step 3 [] (by decide +kernel) ?_)
 | (with_reducible refine AAnyR_step 4 [] (by decide +kernel) ?_)
 | (with_reducible refine AAnyR_step 7 [] (by decide +kernel) ?_)
 | (with_reducible refine AAnyR_step 8 [] (by decide +kernel) ?_)
 | (with_reducible refine AAnyR_step 9 [] (by decide +kernel) ?_)
 | (with_reducible refine AAnyR_step 10 [] (by decide +kernel) ?_)
 | ((with_reducible refine AAllR_res (i := 8) (H.length + 2) 6 ?_ rfl ?_ (fun K hK => ?_) ?_); (exact rfl); (exact rfl))
 | ((with_reducible show RK _ _ _ _ _ _); (try simp only [List.append_assoc, List.cons_append, List.nil_append, hp_setj, List.set_cons_succ, List.set_cons_zero]); refine RK_intro _ (by first | exact List.append_assoc _ _ _ | rfl) (by first | exact (hp_getj _ _ _).trans rfl | exact (hp_get0 _ _).trans rfl) rfl rfl (by intro c hc; simp only [List.mem_cons, List.not_mem_nil, or_false] at hc; (try (rcases hc with rfl | rfl | rfl | rfl | rfl)) <;> first | exact trivial | (subst hc; exact trivial) | (cases hc; done)) (by first | exact ⟨_, _, rfl, by simp, Or.inl rfl⟩ | exact ⟨_, _, rfl, by simp, Or.inr ⟨_, rfl⟩⟩) ?_; simp only [hp_setj, hp_set0, List.set_cons_succ, List.set_cons_zero, List.getD_cons_succ, List.getD_cons_zero, reloc]; refine ⟨Or.inr (fun _ => by (first | exact ⟨_, rfl⟩ | exact ⟨_, by rw [List.append_assoc]; rfl⟩ | exact ⟨_, by simp only [List.append_assoc, List.cons_append, List.nil_append]; rfl⟩ | exact ⟨_, by rw [hp_setj, List.append_assoc]; rfl⟩ | exact ⟨_, hp_setj _ _ _ _⟩ | exact ⟨[], (List.append_nil _).symm⟩)), ?_⟩)
 | ((with_reducible refine AAllR_cons ?_ rfl (fun K hK => ?_) ?_); (exact rfl))
 | (with_reducible exact AAllR_nil)
 | ((with_reducible show thenA _ _ _ _ _); simp only [thenA, blockA, if_true, if_false, reduceIte])
 | ((with_reducible show blockA _ _ _ _ _); simp only [thenA, blockA, if_true, if_false, reduceIte, Nat.reduceEqDiff, reduceCtorEq])
 | (with_reducible refine AOps_cons (fun K hK => ?_))
 | (with_reducible refine AQOps_cons (fun K hK => ?_))
 | ((with_reducible refine AQOps_nil ?_); try simp only [thenA, blockA, if_true, if_false, reduceIte, Nat.reduceEqDiff, reduceCtorEq])
 | ((with_reducible refine AOps_nil ?_); try simp only [thenA, blockA, if_true, if_false, reduceIte, Nat.reduceEqDiff, reduceCtorEq])
 | (with_reducible refine AW_block ?_)
 | ((first | (with_reducible refine AW_ret ?_) | (with_reducible refine AW_skip ?_) | (with_reducible refine AW_exit ?_)); try simp only [thenA, blockA, if_true, if_false, reduceIte, Nat.reduceEqDiff, reduceCtorEq])
 | ((with_reducible show AW _ _ (.cond _ _ _) _ _ _); refine AW_cond rfl (fun hg => ?_) (fun hg => ?_) <;> first | (exfalso; simp only [reduceCtorEq] at hg; done) | ((try simp only [Bool.not_eq_true', Bool.not_eq_false', decide_eq_true_eq, decide_eq_false_iff_not] at hg); try (exfalso; omega)))
 | ((with_reducible show _ ∧ _); refine And.intro (fun hg => ?_) (fun hg => ?_) <;> (try simp only [Bool.not_eq_true', Bool.not_eq_false'] at hg) <;> simp only [hg] <;> (try simp only [decide_eq_true_eq, decide_eq_false_iff_not] at hg) <;> (try (exfalso; omega)))
 | ((first | (with_reducible apply FunH_intro) | (with_reducible apply AQ_intro)); (first | ((with_reducible show FunH _ 5 _ _ _); exact szLevels_c r s v L xss 1048576 (by omega) (by omega) _ (h.app _) (hL.app _) hn hm) | ((with_reducible show FunH _ 5 _ _ _); exact hsz _) | ((with_reducible show FunH _ 7 _ _ _); exact c1 _) | ((with_reducible show FunH _ 7 _ _ _); exact c2 _) | ((with_reducible show FunH _ 12 _ _ _); exact c3 _) | ((with_reducible show FunH _ 7 _ _ _); exact c4) | ((with_reducible show FunH _ 7 _ _ _); exact c5) | ((with_reducible show FunH _ 13 _ _ _); exact c6) | ((with_reducible show FunH _ 9 _ _ _); exact c7)))
 | (clear hK K)
    | fail)
  all_goals try (exfalso; first | omega | (simp at hg; done))
  clear c1 c2 c3 c4 c5 c6 c7 hsz
  repeat' (first
 | ((with_reducible refine hK _ _ ?_); clear hK K)
 | ((with_reducible refine hK _ ?_); clear hK K; try simp only [])
 | ((first | (with_reducible show AOp _ _ _ _ _ _ _) | (with_reducible show AQOp _ _ _ _ _ _ _)); simp (disch := first | ((with_reducible show liveO _ _ _ = true); first | assumption | (exact liveO_setS (by assumption)) | (exact PtL.live (by assumption)) | (exact PtL.liveA (by assumption) _) | (simp only [go_sem]; done)) | omega | assumption | rfl | (simp only [go_sem]; first | done | omega)) only [go_sem, reduceIte, reduceCtorEq, Nat.reduceAdd, Nat.reduceMul, Nat.reduceSub, Nat.reduceLeDiff, Nat.lt_irrefl, Nat.reduceLT, Nat.reduceEqDiff, Nat.reduceBEq, Int.reduceLE, Int.reduceLT, Int.reduceToNat, w64, eq_self, u5, u6, u7, u8, u9, u10, u11, u12, u13, u14, u15, bne_self_eq_false, beq_self_eq_true])
 | ((with_reducible refine AW_seqN [31] ?_ (fun K hK => ?_)); (exact rfl))
 | (with_reducible refine AW_region tyOk ?_)
 | ((with_reducible apply AW_tree (id := 14) tyOk 5); (kernel_rfl); (exact rfl))
 | ((with_reducible apply AW_tree (id := 16) tyOk 5); (kernel_rfl); (exact rfl))
 | ((with_reducible refine AAny_leaf (by decide +kernel) ?_); exact ⟨rfl, rfl⟩)
 | (with_reducible refine AAny_step 0 [1] (by decide +kernel) ?_)
 | (with_reducible refine AAny_step 0 [2] (by decide +kernel) ?_)
 | (with_reducible refine AAny_step 0 [] (by decide +kernel) ?_)
 | (with_reducible refine AAny_step 1 [] (by decide +kernel) ?_)
 | (with_reducible refine AAny_step 2 [] (by decide +kernel) ?_)
 | (with_reducible refine AAny_step 3 [] (by decide +kernel) ?_)
 | (with_reducible refine AAny_step 4 [] (by decide +kernel) ?_)
 | (with_reducible refine AAll_cons rfl (fun K hK => ?_) ?_)
 | (with_reducible exact AAll_nil)
 | ((with_reducible show thenA _ _ _ _ _); simp only [thenA, blockA, if_true, if_false, reduceIte])
 | (with_reducible refine AOps_cons (fun K hK => ?_))
 | (with_reducible refine AQOps_cons (fun K hK => ?_))
 | ((with_reducible refine AQOps_nil ?_); try simp only [thenA, blockA, if_true, if_false, reduceIte, Nat.reduceEqDiff, reduceCtorEq])
 | ((with_reducible refine AOps_nil ?_); try simp only [thenA, blockA, if_true, if_false, reduceIte, Nat.reduceEqDiff, reduceCtorEq])
 | (with_reducible refine AW_block ?_)
 | ((first | (with_reducible refine AW_ret ?_) | (with_reducible refine AW_skip ?_) | (with_reducible refine AW_exit ?_)); try simp only [thenA, blockA, if_true, if_false, reduceIte, Nat.reduceEqDiff, reduceCtorEq])
 | ((with_reducible show AW _ _ (.cond _ _ _) _ _ _); refine AW_cond rfl (fun hg => ?_) (fun hg => ?_) <;> first | (exfalso; simp only [reduceCtorEq] at hg; done) | ((try simp only [Bool.not_eq_true', Bool.not_eq_false', decide_eq_true_eq, decide_eq_false_iff_not] at hg); try (exfalso; omega)))
 | ((with_reducible show _ ∧ _); refine And.intro (fun hg => ?_) (fun hg => ?_) <;> (try simp only [Bool.not_eq_true', Bool.not_eq_false'] at hg) <;> simp only [hg] <;> (try simp only [decide_eq_true_eq, decide_eq_false_iff_not] at hg) <;> (try (exfalso; omega)))
 | ((first | (with_reducible apply FunH_intro) | (with_reducible apply AQ_intro)); (first | ((with_reducible show FunH _ 7 _ _ _); exact c8) | ((with_reducible show FunH _ 9 _ _ _); exact c9) | ((with_reducible show FunH _ 7 _ _ _); exact c10) | ((with_reducible show FunH _ 9 _ _ _); exact c11) | ((with_reducible show FunH _ 10 _ _ _); exact c12) | ((with_reducible show FunH _ 10 _ _ _); exact c13) | ((with_reducible show FunH _ 9 _ _ _); exact c14) | ((with_reducible show FunH _ 10 _ _ _); exact c15) | ((with_reducible show FunH _ 11 _ _ _); exact c16)))
 | (clear hK K)
    | fail)
  all_goals try (exfalso; first | omega | (simp at hg; done))
  clear c8 c9 c10 c11 c12 c13 c14 c15 c16 u1 u2 u3 u4 u5 u6 u7 u8 u9 u10 u11 u12 u13 u14 u15
  obtain ⟨H, hHH⟩ : ∃ X, X = H12 := ⟨_, rfl⟩
  subst hHH
  obtain ⟨i1, i2, i3, i4⟩ := rr12
  obtain ⟨A13, Q13, J1, q13, gj1, t1⟩ := toLevels_exN (H.length + 1) r s v L xss ht
  have l1 := fun o : AO => (t1 (H ++ [o]) (by simp) (i1.app _) (i2.app _)).1
  have c17 := fun o : AO => (t1 (H ++ [o]) (by simp) (i1.app _) (i2.app _)).2
  simp only [List.append_assoc, List.cons_append, List.nil_append] at l1 c17
  obtain ⟨A14, Q14, K14, q14, gj2, t2⟩ := toLevels_exN (H.length + 1 + J1.length) r2 s2 v2 L2 yss ht2
  have l2 := fun o : AO => (t2 (H ++ (o :: J1)) (by simp; omega) (i3.app _) (i4.app _)).1
  have c18 := fun o : AO => (t2 (H ++ (o :: J1)) (by simp; omega) (i3.app _) (i4.app _)).2
  have l1b := fun o : AO => (l1 o).app (Nat.le_refl _) K14
  simp only [List.append_assoc, List.cons_append] at l2 c18 l1b
  obtain ⟨J2, hJ2⟩ : ∃ G2, J1 ++ K14 = G2 := ⟨_, rfl⟩
  simp only [hJ2] at l2 c18 l1b
  obtain ⟨Qh, K15, qh, gj3, t3⟩ := plQ_exN (H.length + 1 + J2.length) r ok R
  have t3' := fun o : AO => t3 13 [.agg [.int .i64 r, .int .i64 s, .sl A13 0 0 xss.length none], .agg [.int .i64 r2, .int .i64 s2, .sl A14 0 0 yss.length none]] (H ++ (o :: J2)) (by simp; omega) (by
    have x1 := (l1b o).rd
    have x2 := (l2 o).rd
    rw [(totQ_of q13).1] at x1
    rw [(totQ_of q14).1] at x2
    have := iMergeLevels_c r s r2 s2 _ _ _ _ xss yss _ x1 ((l1b o).rdl q13) ht x2 ((l2 o).rdl q14) ht2
    rw [hok, hR] at this; exact this)
  rw [hS] at qh
  rw [hS, hr3, hs3] at t3'
  have lh := fun o => (t3' o).1
  have c19 := fun o => (t3' o).2
  clear t3' t3 t2 t1 l1 l1b l2
  simp only [List.append_assoc, List.cons_append] at lh c19
  obtain ⟨J3, hJ3⟩ : ∃ G3, J2 ++ K15 = G3 := ⟨_, rfl⟩
  simp only [hJ3] at lh c19
  obtain ⟨n13, hn13⟩ : ∃ n3, H.length + 1 + J2.length = n3 := ⟨_, rfl⟩
  rw [hn13] at c19
  simp only [hn13] at lh
  have c20 := eqLv r3 s3 (lh ⟨1, false, 27, 3, [.int .i64 r3, .int .i64 s3, .sl n13 0 0 S.length none]⟩) qh (lw12.app (by omega) (⟨1, false, 27, 3, [.int .i64 r3, .int .i64 s3, .sl n13 0 0 S.length none]⟩ :: J3)) qw hst rfl
  have c21 := heldLevels_c r3 s3 1 S.length (lg12.app (by omega) (⟨1, false, 27, 3, [.int .i64 r3, .int .i64 s3, .sl n13 0 0 S.length none]⟩ :: J3)) (by rw [List.length_append]; omega) hQg hsl (by omega)
  have u1 := pa12.gets (n := 3) rfl
  have u2 := fun K => pa12.getsA K (n := 3) rfl
  have u3 := pb12.gets (n := 3) rfl
  have u4 := fun K => pb12.getsA K (n := 3) rfl
  have u5 := fun K => w12.getsA K (n := 3) rfl
  have u6 := fun K => gb12.getsA K (n := 3) rfl
  repeat' (first
 | ((with_reducible refine hK _ _ ?_); clear hK K)
 | ((with_reducible refine hK _ ?_); clear hK K; try simp only [])
 | ((with_reducible refine hK _ _ ?_ ?_); (first | exact Or.inl rfl | exact Or.inr (fun _ => by (first | exact ⟨_, rfl⟩ | exact ⟨_, by rw [List.append_assoc]; rfl⟩ | exact ⟨_, by simp only [List.append_assoc, List.cons_append, List.nil_append]; rfl⟩ | exact ⟨_, by rw [hp_setj, List.append_assoc]; rfl⟩ | exact ⟨_, hp_setj _ _ _ _⟩ | exact ⟨[], (List.append_nil _).symm⟩))); clear hK K)
 | ((first | (with_reducible show AOp _ _ _ _ _ _ _) | (with_reducible show AQOp _ _ _ _ _ _ _)); simp (disch := first | ((with_reducible show liveO _ _ _ = true); first | assumption | (exact liveO_setS (by assumption)) | (exact PtL.live (by assumption)) | (exact PtL.liveA (by assumption) _) | (simp only [go_sem]; done)) | omega | assumption | rfl | (simp only [go_sem]; first | done | omega)) only [go_sem, reduceIte, reduceCtorEq, Nat.reduceAdd, Nat.reduceMul, Nat.reduceSub, Nat.reduceLeDiff, Nat.lt_irrefl, Nat.reduceLT, Nat.reduceEqDiff, Nat.reduceBEq, Int.reduceLE, Int.reduceLT, Int.reduceToNat, w64, eq_self, u1, u2, u3, u4, u5, u6, bne_self_eq_false, beq_self_eq_true])
 | (with_reducible refine AW_seq (fun K hK => ?_))
 | (with_reducible refine AW_region tyOk ?_)
 | ((with_reducible apply AW_treeV (id := 31) tyOk 11 [(8, H.length)] [(27, 3)] [9, 10]); (kernel_rfl); (exact rfl); simp only [List.map_cons, List.map_nil, List.append_assoc, List.cons_append, List.nil_append])
 | ((with_reducible refine AAnyR_leaf (by decide +kernel) ?_); (with_reducible exact Wk.refl))
 | ((with_reducible refine AAnyR_quiet 0 rfl rfl ?_ (by decide +kernel) (by decide +kernel) (by decide +kernel) (by decide +kernel) (by (first | exact ⟨_, rfl⟩ | exact ⟨_, by rw [List.append_assoc]; rfl⟩ | exact ⟨_, by simp only [List.append_assoc, List.cons_append, List.nil_append]; rfl⟩ | exact ⟨_, by rw [hp_setj, List.append_assoc]; rfl⟩ | exact ⟨_, hp_setj _ _ _ _⟩ | exact ⟨[], (List.append_nil _).symm⟩)) (fun K hK => ?_)); (exact rfl))
 | ((with_reducible refine AAnyR_quiet 2 rfl rfl ?_ (by decide +kernel) (by decide +kernel) (by decide +kernel) (by decide +kernel) (by (first | exact ⟨_, rfl⟩ | exact ⟨_, by rw [List.append_assoc]; rfl⟩ | exact ⟨_, by simp only [List.append_assoc, List.cons_append, List.nil_append]; rfl⟩ | exact ⟨_, by rw [hp_setj, List.append_assoc]; rfl⟩ | exact ⟨_, hp_setj _ _ _ _⟩ | exact ⟨[], (List.append_nil _).symm⟩)) (fun K hK => ?_)); (exact rfl))
 | ((with_reducible refine AAnyR_quiet 5 rfl rfl ?_ (by decide +kernel) (by decide +kernel) (by decide +kernel) (by decide +kernel) (by (first | exact ⟨_, rfl⟩ | exact ⟨_, by rw [List.append_assoc]; rfl⟩ | exact ⟨_, by simp only [List.append_assoc, List.cons_append, List.nil_append]; rfl⟩ | exact ⟨_, by rw [hp_setj, List.append_assoc]; rfl⟩ | exact ⟨_, hp_setj _ _ _ _⟩ | exact ⟨[], (List.append_nil _).symm⟩)) (fun K hK => ?_)); (exact rfl))
 | ((with_reducible refine AAnyR_quiet 6 rfl rfl ?_ (by decide +kernel) (by decide +kernel) (by decide +kernel) (by decide +kernel) (by (first | exact ⟨_, rfl⟩ | exact ⟨_, by rw [List.append_assoc]; rfl⟩ | exact ⟨_, by simp only [List.append_assoc, List.cons_append, List.nil_append]; rfl⟩ | exact ⟨_, by rw [hp_setj, List.append_assoc]; rfl⟩ | exact ⟨_, hp_setj _ _ _ _⟩ | exact ⟨[], (List.append_nil _).symm⟩)) (fun K hK => ?_)); (exact rfl))
 | (with_reducible refine AAnyR_step 1 [8] (by decide +kernel) ?_)
 | (with_reducible refine AAnyR_step 3 [8] (by decide +kernel) ?_)
 | (with_reducible refine AAnyR_step 4 [8] (by decide +kernel) ?_)
 | (with_reducible refine AAnyR_step 7 [8] (by decide +kernel) ?_)
 | (with_reducible refine AAnyR_step 7 [9] (by decide +kernel) ?_)
 | (with_reducible refine AAnyR_step 1 [] (by decide +kernel) ?_)
 | (with_reducible refine AAnyR_step 3 [] (by decide +kernel) ?_)
 | (with_reducible refine AAnyR_step 4 [] (by decide +kernel) ?_)
 | (with_reducible refine AAnyR_step 7 [] (by decide +kernel) ?_)
 | (with_reducible refine AAnyR_step 8 [] (by decide +kernel) ?_)
 | (with_reducible refine AAnyR_step 9 [] (by decide +kernel) ?_)
 | (with_reducible refine AAnyR_step 10 [] (by decide +kernel) ?_)
 | ((with_reducible refine AAllR_res (i := 8) (H.length) 15 ?_ rfl ?_ (fun K hK => ?_) ?_); (exact rfl); (exact rfl))
 | ((with_reducible show RK _ _ _ _ _ _); (try simp only [List.append_assoc, List.cons_append, List.nil_append, hp_setj, List.set_cons_succ, List.set_cons_zero]); refine RK_intro _ (by first | exact List.append_assoc _ _ _ | rfl) (by first | exact (hp_getj _ _ _).trans rfl | exact (hp_get0 _ _).trans rfl) rfl rfl (by intro c hc; simp only [List.mem_cons, List.not_mem_nil, or_false] at hc; (try (rcases hc with rfl | rfl | rfl | rfl | rfl)) <;> first | exact trivial | (subst hc; exact trivial) | (cases hc; done)) (by first | exact ⟨_, _, rfl, by simp, Or.inl rfl⟩ | exact ⟨_, _, rfl, by simp, Or.inr ⟨_, rfl⟩⟩) ?_; simp only [hp_setj, hp_set0, List.set_cons_succ, List.set_cons_zero, List.getD_cons_succ, List.getD_cons_zero, reloc]; refine ⟨Or.inr (fun _ => by (first | exact ⟨_, rfl⟩ | exact ⟨_, by rw [List.append_assoc]; rfl⟩ | exact ⟨_, by simp only [List.append_assoc, List.cons_append, List.nil_append]; rfl⟩ | exact ⟨_, by rw [hp_setj, List.append_assoc]; rfl⟩ | exact ⟨_, hp_setj _ _ _ _⟩ | exact ⟨[], (List.append_nil _).symm⟩)), ?_⟩)
 | ((with_reducible refine AAllR_cons ?_ rfl (fun K hK => ?_) ?_); (exact rfl))
 | (with_reducible exact AAllR_nil)
 | ((with_reducible show thenA _ _ _ _ _); simp only [thenA, blockA, if_true, if_false, reduceIte])
 | ((with_reducible show blockA _ _ _ _ _); simp only [thenA, blockA, if_true, if_false, reduceIte, Nat.reduceEqDiff, reduceCtorEq])
 | (with_reducible refine AOps_cons (fun K hK => ?_))
 | (with_reducible refine AQOps_cons (fun K hK => ?_))
 | ((with_reducible refine AQOps_nil ?_); try simp only [thenA, blockA, if_true, if_false, reduceIte, Nat.reduceEqDiff, reduceCtorEq])
 | ((with_reducible refine AOps_nil ?_); try simp only [thenA, blockA, if_true, if_false, reduceIte, Nat.reduceEqDiff, reduceCtorEq])
 | (with_reducible refine AW_block ?_)
 | ((first | (with_reducible refine AW_ret ?_) | (with_reducible refine AW_skip ?_) | (with_reducible refine AW_exit ?_)); try simp only [thenA, blockA, if_true, if_false, reduceIte, Nat.reduceEqDiff, reduceCtorEq])
 | ((with_reducible show AW _ _ (.cond _ _ _) _ _ _); refine AW_cond rfl (fun hg => ?_) (fun hg => ?_) <;> first | (exfalso; simp only [reduceCtorEq] at hg; done) | ((try simp only [Bool.not_eq_true', Bool.not_eq_false', decide_eq_true_eq, decide_eq_false_iff_not] at hg); try (exfalso; omega)))
 | ((with_reducible show _ ∧ _); refine And.intro (fun hg => ?_) (fun hg => ?_) <;> (try simp only [Bool.not_eq_true', Bool.not_eq_false'] at hg) <;> simp only [hg] <;> (try simp only [decide_eq_true_eq, decide_eq_false_iff_not] at hg) <;> (try (exfalso; omega)))
 | ((first | (with_reducible apply FunH_intro) | (with_reducible apply AQ_intro)); (first | ((with_reducible show FunH _ 7 _ _ _); exact c17 _) | ((with_reducible show FunH _ 7 _ _ _); exact c18 _) | ((with_reducible show FunH _ 13 _ _ _); exact c19 _) | ((with_reducible show FunH _ 9 _ _ _); exact c20) | ((with_reducible show FunH _ 11 _ _ _); exact c21)))
 | (clear hK K)
    | fail)
  all_goals try (exfalso; first | omega | (simp at hg; done))
  all_goals (first | refine EndA_cut hcl (by first | exact Or.inr rfl | exact Or.inl rfl) (by simp only [Try.results4, resA, aresL, go_sem, reduceIte, reduceCtorEq, Nat.reduceAdd, Nat.reduceMul, Nat.reduceSub, Nat.reduceLeDiff, Nat.lt_irrefl, Nat.reduceLT, Nat.reduceEqDiff, Nat.reduceBEq, Int.reduceLE, Int.reduceLT, Int.reduceToNat, w64, eq_self] <;> rfl) rfl ?_ | refine EndA_same (by first | exact Or.inr rfl | exact Or.inl rfl) (by simp only [Try.results4, resA, aresL, go_sem, reduceIte, reduceCtorEq, Nat.reduceAdd, Nat.reduceMul, Nat.reduceSub, Nat.reduceLeDiff, Nat.lt_irrefl, Nat.reduceLT, Nat.reduceEqDiff, Nat.reduceBEq, Int.reduceLE, Int.reduceLT, Int.reduceToNat, w64, eq_self] <;> rfl) ?_)
  all_goals rfl
end Go.Proofs.Ytonlgkecphijoaa
