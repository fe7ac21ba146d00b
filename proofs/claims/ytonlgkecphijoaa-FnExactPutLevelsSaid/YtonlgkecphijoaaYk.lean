/- PutLevels in the abstract machine: the reference's side. -/
import Derived.Test.YtonlgkecphijoaaYf
namespace Go.Proofs.Ytonlgkecphijoaa
open Go.RowKit
set_option linter.unusedSimpArgs false
set_option linter.unusedVariables false
set_option maxRecDepth 100000

set_option maxHeartbeats 8000000 in
theorem sPutLevels_c (r s : Int) (v : LV) (L : List LV) (xss : List (List (Option Nat))) (x : Option Nat) (Hb : Hp) (h : RdL Hb v L) (hL : RdLL Hb L xss) (hn : totL xss ≤ 1048576) :
    FunH Try.prog 6 [.agg [.int .i64 r, .int .i64 s, v], .flt .f32 x] Hb (plQ Hb r (plOk r s xss x) (plS r s (putL (unw xss) (x.getD 0)))) := by
  have hv := l05Levels_c Hb.length 0 r s v L xss (Hb ++ [(⟨0, false, 27, 3, [.int .i64 r, .int .i64 s, v]⟩ : AO), rsL]) (PtL_h0 rfl) (h.app _) (hL.app _) hn
  unfold rsL at hv
  cases e1 : levB r s xss
  · have e : plOk r s xss x = false := by unfold plOk; rw [e1]; rfl
    rw [e]
    unfold plQ stX
    simp only [Bool.false_eq_true, if_false, reduceIte]
    rw [e1] at hv
    (refine FunH_body tyOk Try.func6 rfl (by kernel_rfl) Try.ntmps6 (fun hcl hbd => ?_); simp only [List.length_cons, List.length_nil, Nat.reduceAdd, Nat.reduceSub, List.replicate, List.cons_append, List.nil_append])
    repeat' (first
      | ((with_reducible refine hK _ _ ?_); clear hK K)
      | ((first | (with_reducible show AOp _ _ _ _ _ _ _)); simp (disch := first | ((with_reducible show liveO _ _ _ = true); first | assumption | (exact lvB) | (exact lvA) | (exact lvBA _) | (exact lvAA _) | (exact bSl _ _) | (exact aSl _ _) | (exact liveO_setS (by assumption)) | (exact PtL.live (by assumption)) | (exact PtL.liveA (by assumption) _) | (simp only [go_sem]; done)) | omega | assumption | rfl | (simp only [go_sem]; first | done | omega)) only [go_sem, reduceIte, reduceCtorEq, Nat.reduceAdd, Nat.reduceMul, Nat.reduceSub, Nat.reduceLeDiff, Nat.lt_irrefl, Nat.reduceLT, Nat.reduceEqDiff, Nat.reduceBEq, Int.reduceLE, Int.reduceLT, Int.reduceToNat, w64, eq_self, h.isCell])
      | (with_reducible refine AW_seq (fun K hK => ?_))
      | (with_reducible refine AW_region tyOk ?_)
      | (with_reducible refine AOps_cons (fun K hK => ?_))
      | ((with_reducible refine AOps_nil ?_); try simp only [thenA, blockA, if_true, if_false, reduceIte, Nat.reduceEqDiff, reduceCtorEq])
      | (with_reducible refine AW_block ?_)
      | ((first | (with_reducible refine AW_ret ?_) | (with_reducible refine AW_skip ?_) | (with_reducible refine AW_exit ?_)); try simp only [thenA, blockA, if_true, if_false, reduceIte, Nat.reduceEqDiff, reduceCtorEq])
      | ((with_reducible show AW _ _ (.cond _ _ _) _ _ _); refine AW_cond rfl (fun hg => ?_) (fun hg => ?_) <;> first | (exfalso; simp only [reduceCtorEq] at hg; done) | ((try simp only [Bool.not_eq_true', Bool.not_eq_false', decide_eq_true_eq, decide_eq_false_iff_not] at hg); try (exfalso; omega)))
      | ((with_reducible show _ ∧ _); refine And.intro (fun hg => ?_) (fun hg => ?_) <;> (try simp only [Bool.not_eq_true', Bool.not_eq_false'] at hg) <;> simp only [hg] <;> (try simp only [decide_eq_true_eq, decide_eq_false_iff_not] at hg) <;> (try (exfalso; omega)))
      | ((with_reducible apply FunH_intro); (first | exact hv | exact l05Levels_c _ _ _ _ _ _ _ _ (by first | assumption | exact PtL.app (by assumption) _ | exact PtL_h0 rfl | exact PtL_hj rfl) (by first | assumption | exact RdL.app (by assumption) _ | exact RdL_hj rfl (by simp) | exact RdL_h0 rfl (by simp) | exact RdL_nil | exact RdL_emp) (by first | assumption | exact RdLL.app (by assumption) _) (by first | assumption | omega | (simp; omega) | (simp; done)) | exact l01Finite_c _ _ | exact l05Own_c _ _ _ _ _ _ _ _ (by first | assumption | exact PtL.app (by assumption) _ | exact PtL_h0 rfl | exact PtL_hj rfl) (by first | assumption | exact RdL.app (by assumption) _ | exact RdL_hj rfl (by simp) | exact RdL_h0 rfl (by simp) | exact RdL_nil | exact RdL_emp) (by first | assumption | exact RdLL.app (by assumption) _) (by first | assumption | omega | (simp; omega) | (simp; done)) | exact l05Settle_c _ _ _ _ _ _ _ _ _ (by first | assumption | omega | (simp; omega) | (simp; done)) (by first | assumption | omega | (simp; omega) | (simp; done)) (by first | assumption | omega | (simp; omega) | (simp; done)) (by first | assumption | omega | (simp; omega) | (simp; done))))
      | (clear hK K)
      | fail)
    refine EndA_rows [none] hcl (by first | exact Or.inr rfl | exact Or.inl rfl) (by simp only [Try.results6, resA, aresL, go_sem] <;> rfl) (by simp) ?_ ?_ ⟨rfl, rfl⟩
    · exact ⟨RowOk.none, trivial⟩
    · exact TdT.tup ⟨TdL.agg ⟨TdB.old _ trivial rfl, TdB.old _ trivial rfl, TdB.virt 0 rfl, trivial⟩, TdL.cell (TdB.old _ trivial rfl), trivial⟩
  rw [e1] at hv
  cases e2 : finO x
  · have e : plOk r s xss x = false := by unfold plOk; rw [e1, e2]; rfl
    rw [e]
    unfold plQ stX
    simp only [Bool.false_eq_true, if_false, reduceIte]
    (refine FunH_body tyOk Try.func6 rfl (by kernel_rfl) Try.ntmps6 (fun hcl hbd => ?_); simp only [List.length_cons, List.length_nil, Nat.reduceAdd, Nat.reduceSub, List.replicate, List.cons_append, List.nil_append])
    repeat' (first
      | ((with_reducible refine hK _ _ ?_); clear hK K)
      | ((first | (with_reducible show AOp _ _ _ _ _ _ _)); simp (disch := first | ((with_reducible show liveO _ _ _ = true); first | assumption | (exact lvB) | (exact lvA) | (exact lvBA _) | (exact lvAA _) | (exact bSl _ _) | (exact aSl _ _) | (exact liveO_setS (by assumption)) | (exact PtL.live (by assumption)) | (exact PtL.liveA (by assumption) _) | (simp only [go_sem]; done)) | omega | assumption | rfl | (simp only [go_sem]; first | done | omega)) only [go_sem, reduceIte, reduceCtorEq, Nat.reduceAdd, Nat.reduceMul, Nat.reduceSub, Nat.reduceLeDiff, Nat.lt_irrefl, Nat.reduceLT, Nat.reduceEqDiff, Nat.reduceBEq, Int.reduceLE, Int.reduceLT, Int.reduceToNat, w64, eq_self, h.isCell, e2])
      | (with_reducible refine AW_seq (fun K hK => ?_))
      | (with_reducible refine AW_region tyOk ?_)
      | (with_reducible refine AOps_cons (fun K hK => ?_))
      | ((with_reducible refine AOps_nil ?_); try simp only [thenA, blockA, if_true, if_false, reduceIte, Nat.reduceEqDiff, reduceCtorEq])
      | (with_reducible refine AW_block ?_)
      | ((first | (with_reducible refine AW_ret ?_) | (with_reducible refine AW_skip ?_) | (with_reducible refine AW_exit ?_)); try simp only [thenA, blockA, if_true, if_false, reduceIte, Nat.reduceEqDiff, reduceCtorEq])
      | ((with_reducible show AW _ _ (.cond _ _ _) _ _ _); refine AW_cond rfl (fun hg => ?_) (fun hg => ?_) <;> first | (exfalso; simp only [reduceCtorEq] at hg; done) | ((try simp only [Bool.not_eq_true', Bool.not_eq_false', decide_eq_true_eq, decide_eq_false_iff_not] at hg); try (exfalso; omega)))
      | ((with_reducible show _ ∧ _); refine And.intro (fun hg => ?_) (fun hg => ?_) <;> (try simp only [Bool.not_eq_true', Bool.not_eq_false'] at hg) <;> simp only [hg] <;> (try simp only [decide_eq_true_eq, decide_eq_false_iff_not] at hg) <;> (try (exfalso; omega)))
      | ((with_reducible apply FunH_intro); (first | exact hv | exact l05Levels_c _ _ _ _ _ _ _ _ (by first | assumption | exact PtL.app (by assumption) _ | exact PtL_h0 rfl | exact PtL_hj rfl) (by first | assumption | exact RdL.app (by assumption) _ | exact RdL_hj rfl (by simp) | exact RdL_h0 rfl (by simp) | exact RdL_nil | exact RdL_emp) (by first | assumption | exact RdLL.app (by assumption) _) (by first | assumption | omega | (simp; omega) | (simp; done)) | exact l01Finite_c _ _ | exact l05Own_c _ _ _ _ _ _ _ _ (by first | assumption | exact PtL.app (by assumption) _ | exact PtL_h0 rfl | exact PtL_hj rfl) (by first | assumption | exact RdL.app (by assumption) _ | exact RdL_hj rfl (by simp) | exact RdL_h0 rfl (by simp) | exact RdL_nil | exact RdL_emp) (by first | assumption | exact RdLL.app (by assumption) _) (by first | assumption | omega | (simp; omega) | (simp; done)) | exact l05Settle_c _ _ _ _ _ _ _ _ _ (by first | assumption | omega | (simp; omega) | (simp; done)) (by first | assumption | omega | (simp; omega) | (simp; done)) (by first | assumption | omega | (simp; omega) | (simp; done)) (by first | assumption | omega | (simp; omega) | (simp; done))))
      | (clear hK K)
      | fail)
    refine EndA_rows [none] hcl (by first | exact Or.inr rfl | exact Or.inl rfl) (by simp only [Try.results6, resA, aresL, go_sem] <;> rfl) (by simp) ?_ ?_ ⟨rfl, rfl⟩
    · exact ⟨RowOk.none, trivial⟩
    · exact TdT.tup ⟨TdL.agg ⟨TdB.old _ trivial rfl, TdB.old _ trivial rfl, TdB.virt 0 rfl, trivial⟩, TdL.cell (TdB.old _ trivial rfl), trivial⟩
  obtain ⟨ls, rfl⟩ : ∃ ls : List (List Nat), xss = ls.map fun ws => ws.map some := words_L (by
    intro xs hx
    unfold levB at e1
    simp only [Bool.and_eq_true] at e1
    have := List.all_eq_true.1 e1.2 xs hx
    unfold levP at this
    simp only [Bool.and_eq_true] at this
    exact this.2)
  obtain ⟨w, rfl⟩ : ∃ w, x = some w := by cases x with
    | none => cases e2
    | some w => exact ⟨w, rfl⟩
  have eo : plOk r s (ls.map fun ws => ws.map some) (some w) = stOk r (plS r s (putL ls w)) := by
    unfold plOk; rw [e1, e2, unw_map]; rfl
  rw [eo, unw_map]
  have eg : (some w : Option Nat).getD 0 = w := rfl
  rw [eg]
  have e3 := e1
  unfold levB at e3
  simp only [Bool.and_eq_true, decide_eq_true_eq, beq_iff_eq, inB, List.length_map] at e3
  obtain ⟨⟨⟨⟨⟨⟨hr2, hr64⟩, hrm⟩, hs0, hs1⟩, hl1⟩, hl16⟩, -⟩ := e3
  obtain ⟨q, rfl⟩ : ∃ q : Nat, r = ((2 * q : Nat) : Int) := ⟨(r / 2).toNat, by
    have h1 := Int.tmod_eq_emod_of_nonneg (a := r) (b := 2) (by omega)
    omega⟩
  have hq2 : (((2 * q : Nat) : Int) / 2).toNat = q := by omega
  have hR : stl q (plN (putL ls w)) 0 (putL ls w) s = plS (2 * q : Nat) s (putL ls w) := by unfold plS; rw [hq2]
  obtain ⟨R, hRe⟩ : ∃ R, plS (2 * q : Nat) s (putL ls w) = R := ⟨_, rfl⟩
  rw [hRe] at hR eo ⊢
  have htw : totW ls ≤ 64 * ls.length := by
    refine totW_le fun ws hws => ?_
    unfold levB at e1
    simp only [Bool.and_eq_true] at e1
    have := List.all_eq_true.1 e1.2 _ (List.mem_map_of_mem hws)
    unfold levP at this
    simp only [Bool.and_eq_true, decide_eq_true_eq, List.length_map] at this
    omega
  (refine FunH_body tyOk Try.func6 rfl (by kernel_rfl) Try.ntmps6 (fun hcl hbd => ?_); simp only [List.length_cons, List.length_nil, Nat.reduceAdd, Nat.reduceSub, List.replicate, List.cons_append, List.nil_append])
  repeat' (first
    | ((with_reducible refine hK _ _ ?_); clear hK K)
    | ((first | (with_reducible show AOp _ _ _ _ _ _ _)); simp (disch := first | ((with_reducible show liveO _ _ _ = true); first | assumption | (exact lvB) | (exact lvA) | (exact lvBA _) | (exact lvAA _) | (exact bSl _ _) | (exact aSl _ _) | (exact liveO_setS (by assumption)) | (exact PtL.live (by assumption)) | (exact PtL.liveA (by assumption) _) | (simp only [go_sem]; done)) | omega | assumption | rfl | (simp only [go_sem]; first | done | omega)) only [go_sem, reduceIte, reduceCtorEq, Nat.reduceAdd, Nat.reduceMul, Nat.reduceSub, Nat.reduceLeDiff, Nat.lt_irrefl, Nat.reduceLT, Nat.reduceEqDiff, Nat.reduceBEq, Int.reduceLE, Int.reduceLT, Int.reduceToNat, w64, eq_self, h.isCell, e2])
    | ((with_reducible refine AW_seqN [4] ?_ (fun K hK => ?_)); (exact rfl))
    | (with_reducible refine AW_region tyOk ?_)
    | (with_reducible refine AOps_cons (fun K hK => ?_))
    | ((with_reducible refine AOps_nil ?_); try simp only [thenA, blockA, if_true, if_false, reduceIte, Nat.reduceEqDiff, reduceCtorEq])
    | (with_reducible refine AW_block ?_)
    | ((first | (with_reducible refine AW_ret ?_) | (with_reducible refine AW_skip ?_) | (with_reducible refine AW_exit ?_)); try simp only [thenA, blockA, if_true, if_false, reduceIte, Nat.reduceEqDiff, reduceCtorEq])
    | ((with_reducible show AW _ _ (.cond _ _ _) _ _ _); refine AW_cond rfl (fun hg => ?_) (fun hg => ?_) <;> first | (exfalso; simp only [reduceCtorEq] at hg; done) | ((try simp only [Bool.not_eq_true', Bool.not_eq_false', decide_eq_true_eq, decide_eq_false_iff_not] at hg); try (exfalso; omega)))
    | ((with_reducible show _ ∧ _); refine And.intro (fun hg => ?_) (fun hg => ?_) <;> (try simp only [Bool.not_eq_true', Bool.not_eq_false'] at hg) <;> simp only [hg] <;> (try simp only [decide_eq_true_eq, decide_eq_false_iff_not] at hg) <;> (try (exfalso; omega)))
    | ((with_reducible apply FunH_intro); (first | exact hv | exact l05Levels_c _ _ _ _ _ _ _ _ (by first | assumption | exact PtL.app (by assumption) _ | exact PtL_h0 rfl | exact PtL_hj rfl) (by first | assumption | exact RdL.app (by assumption) _ | exact RdL_hj rfl (by simp) | exact RdL_h0 rfl (by simp) | exact RdL_nil | exact RdL_emp) (by first | assumption | exact RdLL.app (by assumption) _) (by first | assumption | omega | (simp; omega) | (simp; done)) | exact l01Finite_c _ _ | exact l05Own_c _ _ _ _ _ _ _ _ (by first | assumption | exact PtL.app (by assumption) _ | exact PtL_h0 rfl | exact PtL_hj rfl) (by first | assumption | exact RdL.app (by assumption) _ | exact RdL_hj rfl (by simp) | exact RdL_h0 rfl (by simp) | exact RdL_nil | exact RdL_emp) (by first | assumption | exact RdLL.app (by assumption) _) (by first | assumption | omega | (simp; omega) | (simp; done)) | exact l05Settle_c _ _ _ _ _ _ _ _ _ (by first | assumption | omega | (simp; omega) | (simp; done)) (by first | assumption | omega | (simp; omega) | (simp; done)) (by first | assumption | omega | (simp; omega) | (simp; done)) (by first | assumption | omega | (simp; omega) | (simp; done))))
    | (clear hK K)
    | fail)
  refine (l05Own_c Hb.length 0 (2 * q : Nat) s v L ls _ (PtL_h0 rfl) (h.app _) (hL.app _) hn).mono ?_
  rintro r' X' ⟨A, v0, P, rfl, hPw, hLS0⟩
  have hPl : P.length = ls.length := by rw [← wR_len P, hPw]
  have hx0 := hLS0.lenX
  rw [List.length_append] at hx0
  simp only [List.length_cons, List.length_nil] at hx0
  repeat' (first
    | ((with_reducible refine hK _ _ ?_); clear hK K)
    | ((first | (with_reducible show AOp _ _ _ _ _ _ _)); simp (disch := first | ((with_reducible show liveO _ _ _ = true); first | assumption | (exact lvB) | (exact lvA) | (exact lvBA _) | (exact lvAA _) | (exact bSl _ _) | (exact aSl _ _) | (exact liveO_setS (by assumption)) | (exact PtL.live (by assumption)) | (exact PtL.liveA (by assumption) _) | (simp only [go_sem]; done)) | omega | assumption | rfl | (simp only [go_sem]; first | done | omega)) only [go_sem, reduceIte, reduceCtorEq, Nat.reduceAdd, Nat.reduceMul, Nat.reduceSub, Nat.reduceLeDiff, Nat.lt_irrefl, Nat.reduceLT, Nat.reduceEqDiff, Nat.reduceBEq, Int.reduceLE, Int.reduceLT, Int.reduceToNat, w64, eq_self])
    | ((with_reducible refine AW_seqN [4] ?_ (fun K hK => ?_)); (exact rfl))
    | (with_reducible refine AW_region tyOk ?_)
    | (with_reducible refine AOps_cons (fun K hK => ?_))
    | ((with_reducible refine AOps_nil ?_); try simp only [thenA, blockA, if_true, if_false, reduceIte, Nat.reduceEqDiff, reduceCtorEq])
    | (with_reducible refine AW_block ?_)
    | ((first | (with_reducible refine AW_ret ?_) | (with_reducible refine AW_skip ?_) | (with_reducible refine AW_exit ?_)); try simp only [thenA, blockA, if_true, if_false, reduceIte, Nat.reduceEqDiff, reduceCtorEq])
    | ((with_reducible show AW _ _ (.cond _ _ _) _ _ _); refine AW_cond rfl (fun hg => ?_) (fun hg => ?_) <;> first | (exfalso; simp only [reduceCtorEq] at hg; done) | ((try simp only [Bool.not_eq_true', Bool.not_eq_false', decide_eq_true_eq, decide_eq_false_iff_not] at hg); try (exfalso; omega)))
    | ((with_reducible show _ ∧ _); refine And.intro (fun hg => ?_) (fun hg => ?_) <;> (try simp only [Bool.not_eq_true', Bool.not_eq_false'] at hg) <;> simp only [hg] <;> (try simp only [decide_eq_true_eq, decide_eq_false_iff_not] at hg) <;> (try (exfalso; omega)))
    | ((with_reducible apply FunH_intro); (first | exact l05Levels_c _ _ _ _ _ _ _ _ (by first | assumption | exact PtL.app (by assumption) _ | exact PtL_h0 rfl | exact PtL_hj rfl) (by first | assumption | exact RdL.app (by assumption) _ | exact RdL_hj rfl (by simp) | exact RdL_h0 rfl (by simp) | exact RdL_nil | exact RdL_emp) (by first | assumption | exact RdLL.app (by assumption) _) (by first | assumption | omega | (simp; omega) | (simp; done)) | exact l01Finite_c _ _ | exact l05Own_c _ _ _ _ _ _ _ _ (by first | assumption | exact PtL.app (by assumption) _ | exact PtL_h0 rfl | exact PtL_hj rfl) (by first | assumption | exact RdL.app (by assumption) _ | exact RdL_hj rfl (by simp) | exact RdL_h0 rfl (by simp) | exact RdL_nil | exact RdL_emp) (by first | assumption | exact RdLL.app (by assumption) _) (by first | assumption | omega | (simp; omega) | (simp; done)) | exact l05Settle_c _ _ _ _ _ _ _ _ _ (by first | assumption | omega | (simp; omega) | (simp; done)) (by first | assumption | omega | (simp; omega) | (simp; done)) (by first | assumption | omega | (simp; omega) | (simp; done)) (by first | assumption | omega | (simp; omega) | (simp; done))))
    | (clear hK K)
    | fail)
  rw [hPl]
  have hLS := hLS0.app [(⟨0, false, 27, 3, [.int .i64 (2 * q : Nat), .int .i64 s, .sl A v0 0 ls.length none]⟩ : AO)]
  have hAB := hLS0.ltA
  have hiB := fun k (hk : k < P.length) => hLS0.ltk hk
  have hlA := hLS0.lo
  rw [List.length_append] at hlA
  simp only [List.length_cons, List.length_nil] at hlA
  have hb0 : (X' ++ [(⟨0, false, 27, 3, [.int .i64 (2 * q : Nat), .int .i64 s, .sl A v0 0 ls.length none]⟩ : AO)])[X'.length]? = some ⟨0, false, 27, 3, [.int .i64 (2 * q : Nat), .int .i64 s, .sl A v0 0 ls.length none]⟩ := by rw [hp_get0]; rfl
  obtain ⟨H, hH⟩ : ∃ H, X' ++ [(⟨0, false, 27, 3, [.int .i64 (2 * q : Nat), .int .i64 s, .sl A v0 0 ls.length none]⟩ : AO)] = H := ⟨_, rfl⟩
  rw [hH] at hLS hb0 ⊢
  obtain ⟨B, hB⟩ : ∃ B, X'.length = B := ⟨_, rfl⟩
  simp only [hB] at hAB hiB hb0 hx0 ⊢
  clear hH hLS0
  have hg3 : 0 < P.length := by omega
  obtain ⟨i1, v1, w0, hP0⟩ : ∃ i1 v1 w0, ix P 0 = (i1, v1, w0) := ⟨_, _, _, rfl⟩
  have hi1 : i1 < B := by have := hiB 0 hg3; rw [hP0] at this; exact this
  have hw0 : ix ls 0 = w0 := by have := wR_ix hg3; rw [hPw, hP0] at this; exact this
  have nAB : A ≠ B := by omega
  have n1A : i1 ≠ A := by have := (hLS.row 0 hg3).2.2; rw [hP0] at this; exact this
  have n1B : i1 ≠ B := by omega
  have hoA := hLS.out
  have o1 : H[i1]? = some ⟨v1, false, 25, 1, w0.map Fw⟩ := by have := (hLS.row 0 hg3).1; rw [hP0] at this; exact this
  have hcell : (P.map cR)[0]? = some (.sl i1 v1 0 w0.length none) := by rw [List.getElem?_map, ix_get? _ _ hg3, hP0]; rfl
  have hwn : w0.length ≤ 1048576 := by
    have h1 := totL_w ls
    have h2 := totW_at hl1
    rw [hw0] at h2
    omega
  have o1A : ∀ L, (H ++ L)[i1]? = some ⟨v1, false, 25, 1, w0.map Fw⟩ := at_app o1
  have lvB : liveO H B 0 = true := liveO_at hb0
  have lvA : liveO H A v0 = true := liveO_at hoA
  have lvBA : ∀ L, liveO (H ++ L) B 0 = true := fun L => liveO_at (at_app hb0 L)
  have lvAA : ∀ L, liveO (H ++ L) A v0 = true := fun L => liveO_at (at_app hoA L)
  have gB : ∀ j, hget H B 0 j = ([.int .i64 (2 * q : Nat), .int .i64 s, .sl A v0 0 ls.length none] : List LV)[j]? := fun j => hget_at hb0
  have gBA : ∀ L j, hget (H ++ L) B 0 j = ([.int .i64 (2 * q : Nat), .int .i64 s, .sl A v0 0 ls.length none] : List LV)[j]? := fun L j => hget_at (at_app hb0 L)
  have gA : ∀ j, hget H A v0 j = (P.map cR)[j]? := fun j => hget_at hoA
  have gAA : ∀ L j, hget (H ++ L) A v0 j = (P.map cR)[j]? := fun L j => hget_at (at_app hoA L)
  have bS : ∀ (o : AO) (L : Hp), ((H ++ L).set i1 o)[B]? = some ⟨0, false, 27, 3, [.int .i64 (2 * q : Nat), .int .i64 s, .sl A v0 0 ls.length none]⟩ := fun o L => by rw [List.getElem?_set_ne n1B]; exact at_app hb0 L
  have aS : ∀ (o : AO) (L : Hp), ((H ++ L).set i1 o)[A]? = some ⟨v0, false, 41, 1, P.map cR⟩ := fun o L => by rw [List.getElem?_set_ne n1A]; exact at_app hoA L
  have bSl : ∀ (o : AO) (L : Hp), liveO ((H ++ L).set i1 o) B 0 = true := fun o L => liveO_at (bS o L)
  have aSl : ∀ (o : AO) (L : Hp), liveO ((H ++ L).set i1 o) A v0 = true := fun o L => liveO_at (aS o L)
  have bSg : ∀ (o : AO) (L : Hp) (j : Nat), hget ((H ++ L).set i1 o) B 0 j = ([.int .i64 (2 * q : Nat), .int .i64 s, .sl A v0 0 ls.length none] : List LV)[j]? := fun o L j => hget_at (bS o L)
  have aSp : ∀ (o : AO) (L : Hp) (x : LV), hput ((H ++ L).set i1 o) A v0 0 [x] = some (((H ++ L).set i1 o).set A ⟨v0, false, 41, 1, (P.map cR).set 0 x⟩) := fun o L x => hputA_at (aS o L) (by simp; omega)
  have hwc : (w0.map Fw).length = w0.length := List.length_map ..
  have hwa : (w0.map Fw).all LV.isCell = true := by rw [List.all_eq_true]; intro x hx; obtain ⟨y, _, rfl⟩ := List.mem_map.1 hx; rfl
  have bS3 : ∀ (o o2 : AO) (L : Hp), hgets (((H ++ L).set i1 o).set A o2) B 0 0 3 = some [.int .i64 (2 * q : Nat), .int .i64 s, .sl A v0 0 ls.length none] := fun o o2 L => by
    have h1 : (((H ++ L).set i1 o).set A o2)[B]? = _ := (List.getElem?_set_ne nAB).trans (bS o L)
    simp [hgets, h1]
  repeat' (first
    | ((with_reducible refine hK _ _ ?_); clear hK K)
    | ((with_reducible refine hK _ ?_); clear hK K; try simp only [])
    | ((with_reducible refine hK _ _ ?_ ?_); (first | exact Or.inl rfl | (with_reducible exact Or.inr id) | exact Or.inr (fun _ => by (first | exact ⟨_, by rw [hp_setj, List.append_assoc]; rfl⟩ | exact ⟨_, by rw [List.append_assoc]; rfl⟩ | exact ⟨_, rfl⟩ | exact ⟨_, by rw [List.append_assoc]; rfl⟩ | exact ⟨_, by simp only [List.append_assoc, List.cons_append, List.nil_append]; rfl⟩ | exact ⟨_, by rw [hp_setj, List.append_assoc]; rfl⟩ | exact ⟨_, hp_setj _ _ _ _⟩ | exact ⟨[], (List.append_nil _).symm⟩))); clear hK K; (try simp only [hp_setj, hp_set0, List.set_cons_succ, List.set_cons_zero, Nat.zero_add, Nat.reduceAdd, List.append_assoc, List.cons_append, List.nil_append, List.length_append, List.length_cons, List.length_nil, gB, gA, gBA, gAA, bSg, aSp, bS3, hcell, o1A, hwc, hwa]))
    | ((first | (with_reducible show AOp _ _ _ _ _ _ _) | (with_reducible show AQOp _ _ _ _ _ _ _)); simp (disch := first | ((with_reducible show liveO _ _ _ = true); first | assumption | (exact lvB) | (exact lvA) | (exact lvBA _) | (exact lvAA _) | (exact bSl _ _) | (exact aSl _ _) | (exact liveO_setS (by assumption)) | (exact PtL.live (by assumption)) | (exact PtL.liveA (by assumption) _) | (simp only [go_sem]; done)) | omega | assumption | rfl | (simp only [go_sem]; first | done | omega)) only [go_sem, reduceIte, reduceCtorEq, Nat.reduceAdd, Nat.reduceMul, Nat.reduceSub, Nat.reduceLeDiff, Nat.lt_irrefl, Nat.reduceLT, Nat.reduceEqDiff, Nat.reduceBEq, Int.reduceLE, Int.reduceLT, Int.reduceToNat, w64, eq_self, gB, gA, gBA, gAA, bSg, aSp, bS3, hcell, o1A, hwc, hwa])
    | (with_reducible refine AW_seq (fun K hK => ?_))
    | (with_reducible refine AW_region tyOk ?_)
    | ((with_reducible apply AW_treeV (id := 4) tyOk 11 [(7, H.length)] [(25, 1)] [8, 9, 10]); (kernel_rfl); (exact rfl); simp only [List.map_cons, List.map_nil, List.append_assoc, List.cons_append, List.nil_append])
    | ((with_reducible refine AAnyR_leaf (by decide +kernel) ?_); (with_reducible exact Wk.refl))
    | ((with_reducible show AAnyR _ _ _ _ _ _ _ _ _ _ _ _); (first | (with_reducible refine AAnyR_canon (listed := Array.replicate 11 false) #[false, false, false, false, false, false, false, false, false, false, false] (by decide +kernel) ?_) | ((with_reducible refine AAnyR_quiet (listed := #[false, false, false, false, false, false, false, false, false, false, false]) 2 rfl rfl ?_ (by decide +kernel) (by decide +kernel) (by decide +kernel) (by decide +kernel) (by (first | exact ⟨_, rfl⟩ | exact ⟨_, by rw [List.append_assoc]; rfl⟩ | exact ⟨_, by simp only [List.append_assoc, List.cons_append, List.nil_append]; rfl⟩ | exact ⟨_, by rw [hp_setj, List.append_assoc]; rfl⟩ | exact ⟨_, hp_setj _ _ _ _⟩ | exact ⟨[], (List.append_nil _).symm⟩)) (fun K hK => ?_)); (exact rfl)) | (with_reducible refine AAnyR_canon (listed := Array.setIfInBounds #[false, false, false, false, false, false, false, false, false, false, false] 2 true) #[false, false, true, false, false, false, false, false, false, false, false] (by decide +kernel) ?vs3_00100000000) | ((with_reducible refine AAnyR_quiet (listed := #[false, false, true, false, false, false, false, false, false, false, false]) 3 rfl rfl ?_ (by decide +kernel) (by decide +kernel) (by decide +kernel) (by decide +kernel) (by (first | exact ⟨_, rfl⟩ | exact ⟨_, by rw [List.append_assoc]; rfl⟩ | exact ⟨_, by simp only [List.append_assoc, List.cons_append, List.nil_append]; rfl⟩ | exact ⟨_, by rw [hp_setj, List.append_assoc]; rfl⟩ | exact ⟨_, hp_setj _ _ _ _⟩ | exact ⟨[], (List.append_nil _).symm⟩)) (fun K hK => ?_)); (exact rfl)) | (with_reducible refine AAnyR_canon (listed := Array.setIfInBounds #[false, false, true, false, false, false, false, false, false, false, false] 3 true) #[false, false, true, true, false, false, false, false, false, false, false] (by decide +kernel) ?vs3_00110000000) | ((with_reducible refine AAnyR_quiet (listed := #[false, false, true, true, false, false, false, false, false, false, false]) 4 rfl rfl ?_ (by decide +kernel) (by decide +kernel) (by decide +kernel) (by decide +kernel) (by (first | exact ⟨_, rfl⟩ | exact ⟨_, by rw [List.append_assoc]; rfl⟩ | exact ⟨_, by simp only [List.append_assoc, List.cons_append, List.nil_append]; rfl⟩ | exact ⟨_, by rw [hp_setj, List.append_assoc]; rfl⟩ | exact ⟨_, hp_setj _ _ _ _⟩ | exact ⟨[], (List.append_nil _).symm⟩)) (fun K hK => ?_)); (exact rfl)) | (with_reducible refine AAnyR_canon (listed := Array.setIfInBounds #[false, false, true, true, false, false, false, false, false, false, false] 4 true) #[false, false, true, true, true, false, false, false, false, false, false] (by decide +kernel) ?vs3_00111000000) | ((with_reducible refine AAnyR_quiet (listed := #[false, false, true, true, true, false, false, false, false, false, false]) 5 rfl rfl ?_ (by decide +kernel) (by decide +kernel) (by decide +kernel) (by decide +kernel) (by (first | exact ⟨_, rfl⟩ | exact ⟨_, by rw [List.append_assoc]; rfl⟩ | exact ⟨_, by simp only [List.append_assoc, List.cons_append, List.nil_append]; rfl⟩ | exact ⟨_, by rw [hp_setj, List.append_assoc]; rfl⟩ | exact ⟨_, hp_setj _ _ _ _⟩ | exact ⟨[], (List.append_nil _).symm⟩)) (fun K hK => ?_)); (exact rfl)) | (with_reducible refine AAnyR_canon (listed := Array.setIfInBounds #[false, false, true, true, true, false, false, false, false, false, false] 5 true) #[false, false, true, true, true, true, false, false, false, false, false] (by decide +kernel) ?vs3_00111100000) | ((with_reducible refine AAnyR_quiet (listed := #[false, false, true, true, true, true, false, false, false, false, false]) 6 rfl rfl ?_ (by decide +kernel) (by decide +kernel) (by decide +kernel) (by decide +kernel) (by (first | exact ⟨_, rfl⟩ | exact ⟨_, by rw [List.append_assoc]; rfl⟩ | exact ⟨_, by simp only [List.append_assoc, List.cons_append, List.nil_append]; rfl⟩ | exact ⟨_, by rw [hp_setj, List.append_assoc]; rfl⟩ | exact ⟨_, hp_setj _ _ _ _⟩ | exact ⟨[], (List.append_nil _).symm⟩)) (fun K hK => ?_)); (exact rfl)) | (with_reducible refine AAnyR_canon (listed := Array.setIfInBounds #[false, false, true, true, true, true, false, false, false, false, false] 6 true) #[false, false, true, true, true, true, true, false, false, false, false] (by decide +kernel) ?vs3_00111110000) | ((with_reducible refine AAnyR_step (listed := #[false, false, true, true, true, true, true, false, false, false, false]) 0 [7] ?_ ?_); (decide +kernel)) | (with_reducible refine AAnyR_canon (listed := Array.setIfInBounds #[false, false, true, true, true, true, true, false, false, false, false] 0 true) #[true, false, true, true, true, true, true, false, false, false, false] (by decide +kernel) ?vs3_10111110000) | (with_reducible refine AAnyR_canon (listed := Array.setIfInBounds #[false, false, true, true, true, true, true, false, false, false, false] 7 true) #[false, false, true, true, true, true, true, true, false, false, false] (by decide +kernel) ?vs3_00111111000) | ((with_reducible refine AAnyR_step (listed := #[true, false, true, true, true, true, true, false, false, false, false]) 1 [7] ?_ ?_); (decide +kernel)) | (with_reducible refine AAnyR_canon (listed := Array.setIfInBounds #[true, false, true, true, true, true, true, false, false, false, false] 1 true) #[true, true, true, true, true, true, true, false, false, false, false] (by decide +kernel) ?vs3_11111110000) | (with_reducible refine AAnyR_canon (listed := Array.setIfInBounds #[true, false, true, true, true, true, true, false, false, false, false] 7 true) #[true, false, true, true, true, true, true, true, false, false, false] (by decide +kernel) ?vs3_10111111000) | ((with_reducible refine AAnyR_step (listed := #[true, true, true, true, true, true, true, false, false, false, false]) 7 [] ?_ ?_); (decide +kernel)) | (with_reducible refine AAnyR_canon (listed := Array.setIfInBounds #[true, true, true, true, true, true, true, false, false, false, false] 7 true) #[true, true, true, true, true, true, true, true, false, false, false] (by decide +kernel) ?vs3_11111111000) | ((with_reducible refine AAnyR_step (listed := #[true, true, true, true, true, true, true, true, false, false, false]) 8 [] ?_ ?_); (decide +kernel)) | (with_reducible refine AAnyR_canon (listed := Array.setIfInBounds #[true, true, true, true, true, true, true, true, false, false, false] 8 true) #[true, true, true, true, true, true, true, true, true, false, false] (by decide +kernel) ?vs3_11111111100) | ((with_reducible refine AAnyR_step (listed := #[true, true, true, true, true, true, true, true, true, false, false]) 9 [] ?_ ?_); (decide +kernel)) | (with_reducible refine AAnyR_canon (listed := Array.setIfInBounds #[true, true, true, true, true, true, true, true, true, false, false] 9 true) #[true, true, true, true, true, true, true, true, true, true, false] (by decide +kernel) ?vs3_11111111110) | ((with_reducible refine AAnyR_step (listed := #[true, true, true, true, true, true, true, true, true, true, false]) 10 [] ?_ ?_); (decide +kernel)) | (with_reducible refine AAnyR_canon (listed := Array.setIfInBounds #[true, true, true, true, true, true, true, true, true, true, false] 10 true) #[true, true, true, true, true, true, true, true, true, true, true] (by decide +kernel) ?vs3_11111111111) | ((with_reducible refine AAnyR_step (listed := #[true, false, true, true, true, true, true, true, false, false, false]) 1 [8] ?_ ?_); (decide +kernel)) | (with_reducible refine AAnyR_canon (listed := Array.setIfInBounds #[true, false, true, true, true, true, true, true, false, false, false] 1 true) #[true, true, true, true, true, true, true, true, false, false, false] (by decide +kernel) ?vs3_11111111000) | (with_reducible refine AAnyR_canon (listed := Array.setIfInBounds #[true, false, true, true, true, true, true, true, false, false, false] 8 true) #[true, false, true, true, true, true, true, true, true, false, false] (by decide +kernel) ?vs3_10111111100) | ((with_reducible refine AAnyR_step (listed := #[true, false, true, true, true, true, true, true, true, false, false]) 1 [] ?_ ?_); (decide +kernel)) | (with_reducible refine AAnyR_canon (listed := Array.setIfInBounds #[true, false, true, true, true, true, true, true, true, false, false] 1 true) #[true, true, true, true, true, true, true, true, true, false, false] (by decide +kernel) ?vs3_11111111100) | ((with_reducible refine AAnyR_step (listed := #[false, false, true, true, true, true, true, true, false, false, false]) 0 [8] ?_ ?_); (decide +kernel)) | (with_reducible refine AAnyR_canon (listed := Array.setIfInBounds #[false, false, true, true, true, true, true, true, false, false, false] 0 true) #[true, false, true, true, true, true, true, true, false, false, false] (by decide +kernel) ?vs3_10111111000) | (with_reducible refine AAnyR_canon (listed := Array.setIfInBounds #[false, false, true, true, true, true, true, true, false, false, false] 8 true) #[false, false, true, true, true, true, true, true, true, false, false] (by decide +kernel) ?vs3_00111111100) | ((with_reducible refine AAnyR_step (listed := #[false, false, true, true, true, true, true, true, true, false, false]) 0 [] ?_ ?_); (decide +kernel)) | (with_reducible refine AAnyR_canon (listed := Array.setIfInBounds #[false, false, true, true, true, true, true, true, true, false, false] 0 true) #[true, false, true, true, true, true, true, true, true, false, false] (by decide +kernel) ?vs3_10111111100)))
    | ((with_reducible refine AAllR_res (i := 7) (H.length) 23 ?_ rfl ?_ (fun K hK => ?_) ?_); (exact rfl); (exact rfl))
    | ((with_reducible show RK _ _ _ _ _ _); (try simp only [List.append_assoc, List.cons_append, List.nil_append, hp_setj, List.set_cons_succ, List.set_cons_zero]); refine RK_intro _ (by first | exact List.append_assoc _ _ _ | rfl) (by first | exact (hp_getj _ _ _).trans rfl | exact (hp_get0 _ _).trans rfl) rfl rfl (by intro c hc; simp only [List.mem_cons, List.not_mem_nil, or_false] at hc; (try (rcases hc with rfl | rfl | rfl | rfl | rfl)) <;> first | exact trivial | (subst hc; exact trivial) | (cases hc; done)) (by first | exact ⟨_, _, rfl, by simp, Or.inl rfl⟩ | exact ⟨_, _, rfl, by simp, Or.inr ⟨_, rfl⟩⟩) ?_; simp only [hp_setj, hp_set0, List.set_cons_succ, List.set_cons_zero, List.getD_cons_succ, List.getD_cons_zero, reloc]; refine ⟨Or.inr (fun _ => by (first | exact ⟨_, rfl⟩ | exact ⟨_, by rw [List.append_assoc]; rfl⟩ | exact ⟨_, by simp only [List.append_assoc, List.cons_append, List.nil_append]; rfl⟩ | exact ⟨_, by rw [hp_setj, List.append_assoc]; rfl⟩ | exact ⟨_, hp_setj _ _ _ _⟩ | exact ⟨[], (List.append_nil _).symm⟩)), ?_⟩)
    | ((with_reducible refine AAllR_cons ?_ rfl (fun K hK => ?_) ?_); (exact rfl))
    | (with_reducible exact AAllR_nil)
    | ((with_reducible show thenA _ _ _ _ _); simp only [thenA, blockA, if_true, if_false, reduceIte])
    | ((with_reducible show blockA _ _ _ _ _); simp only [thenA, blockA, if_true, if_false, reduceIte, Nat.reduceEqDiff, reduceCtorEq])
    | (with_reducible refine AOps_cons (fun K hK => ?_))
    | (with_reducible refine AQOps_cons (fun K hK => ?_))
    | ((with_reducible refine AQOps_nil ?_); try simp only [thenA, blockA, if_true, if_false, reduceIte, Nat.reduceEqDiff, reduceCtorEq])
    | ((with_reducible refine AOps_nil ?_); try simp only [thenA, blockA, if_true, if_false, reduceIte, Nat.reduceEqDiff, reduceCtorEq])
    | (with_reducible refine AW_block ?_)
    | ((first | (with_reducible refine AW_ret ?_) | (with_reducible refine AW_skip ?_) | (with_reducible refine AW_exit ?_)); try simp only [thenA, blockA, if_true, if_false, reduceIte, Nat.reduceEqDiff, reduceCtorEq])
    | ((with_reducible show AW _ _ (.cond _ _ _) _ _ _); refine AW_cond rfl (fun hg => ?_) (fun hg => ?_) <;> first | (exfalso; simp only [reduceCtorEq] at hg; done) | ((try simp only [Bool.not_eq_true', Bool.not_eq_false', decide_eq_true_eq, decide_eq_false_iff_not] at hg); try (exfalso; omega)))
    | ((with_reducible show _ ∧ _); refine And.intro (fun hg => ?_) (fun hg => ?_) <;> (try simp only [Bool.not_eq_true', Bool.not_eq_false'] at hg) <;> simp only [hg] <;> (try simp only [decide_eq_true_eq, decide_eq_false_iff_not] at hg) <;> (try (exfalso; omega)))
    | ((first | (with_reducible apply FunH_intro) | (with_reducible apply AQ_intro)); (first | exact l05Levels_c _ _ _ _ _ _ _ _ (by first | assumption | exact PtL.app (by assumption) _ | exact PtL_h0 rfl | exact PtL_hj rfl) (by first | assumption | exact RdL.app (by assumption) _ | exact RdL_hj rfl (by simp) | exact RdL_h0 rfl (by simp) | exact RdL_nil | exact RdL_emp) (by first | assumption | exact RdLL.app (by assumption) _) (by first | assumption | omega | (simp; omega) | (simp; done)) | exact l01Finite_c _ _ | exact l05Own_c _ _ _ _ _ _ _ _ (by first | assumption | exact PtL.app (by assumption) _ | exact PtL_h0 rfl | exact PtL_hj rfl) (by first | assumption | exact RdL.app (by assumption) _ | exact RdL_hj rfl (by simp) | exact RdL_h0 rfl (by simp) | exact RdL_nil | exact RdL_emp) (by first | assumption | exact RdLL.app (by assumption) _) (by first | assumption | omega | (simp; omega) | (simp; done)) | exact l05Settle_c _ _ _ _ _ _ _ _ _ (by first | assumption | omega | (simp; omega) | (simp; done)) (by first | assumption | omega | (simp; omega) | (simp; done)) (by first | assumption | omega | (simp; omega) | (simp; done)) (by first | assumption | omega | (simp; omega) | (simp; done))))
    | (clear hK K)
    | fail)
  have hLS2 := (hLS.app [(⟨1, false, 25, 1, [.flt .f32 (some w)]⟩ : AO)]).putOld (k := 0) hg3 (v1 + 1) (w0 ++ [w])
  rw [hP0] at hLS2
  simp only [List.map_append, List.map_cons, List.map_nil, List.length_append, List.length_cons, List.length_nil, Nat.zero_add, Fw] at hLS2
  have hwP : wR (P.set 0 (i1, v1 + 1, w0 ++ [w])) = putL ls w := by
    show List.map _ (List.set _ _ _) = _
    rw [List.map_set]
    show (wR P).set 0 (w0 ++ [w]) = _
    rw [hPw, ← hw0]; rfl
  have hpl : (putL ls w).length = ls.length := List.length_set
  have hpt : totW (putL ls w) = totW ls + 1 := by
    have := totW_set hl1 (w0 ++ [w])
    rw [hw0, List.length_append] at this
    unfold putL
    rw [hw0]
    simp only [List.length_cons, List.length_nil] at this
    omega
  have hset := l05Settle_c _ _ A v0 q (plN (putL ls w)) s _ hLS2 ⟨by omega, by omega⟩ ⟨hs0, hs1⟩ (by rw [hwP, List.length_set, hPl, hpt]; omega) (by rw [hwP, List.length_set, hPl]; unfold plN; omega)
  rw [List.length_set, hPl, hwP, hR] at hset
  refine hset.mono ?_
  intro r' X' hQ
  unfold stQ at hQ
  cases ho : stOk (2 * q : Nat) R
  · have ho' : levB (2 * q : Nat) R.2 (R.1.map fun ws => ws.map some) = false := ho
    rw [ho'] at hQ
    simp only [Bool.false_eq_true, if_false] at hQ
    obtain ⟨rfl, K0, rfl⟩ := hQ
    simp only [List.append_assoc, List.cons_append, List.nil_append]
    repeat' (first
      | ((with_reducible refine hK _ _ ?_); clear hK K)
      | ((first | (with_reducible show AOp _ _ _ _ _ _ _)); simp (disch := first | ((with_reducible show liveO _ _ _ = true); first | assumption | (exact lvB) | (exact lvA) | (exact lvBA _) | (exact lvAA _) | (exact bSl _ _) | (exact aSl _ _) | (exact liveO_setS (by assumption)) | (exact PtL.live (by assumption)) | (exact PtL.liveA (by assumption) _) | (simp only [go_sem]; done)) | omega | assumption | rfl | (simp only [go_sem]; first | done | omega)) only [go_sem, reduceIte, reduceCtorEq, Nat.reduceAdd, Nat.reduceMul, Nat.reduceSub, Nat.reduceLeDiff, Nat.lt_irrefl, Nat.reduceLT, Nat.reduceEqDiff, Nat.reduceBEq, Int.reduceLE, Int.reduceLT, Int.reduceToNat, w64, eq_self])
      | (with_reducible refine AW_seq (fun K hK => ?_))
      | (with_reducible refine AW_region tyOk ?_)
      | (with_reducible refine AOps_cons (fun K hK => ?_))
      | ((with_reducible refine AOps_nil ?_); try simp only [thenA, blockA, if_true, if_false, reduceIte, Nat.reduceEqDiff, reduceCtorEq])
      | (with_reducible refine AW_block ?_)
      | ((first | (with_reducible refine AW_ret ?_) | (with_reducible refine AW_skip ?_) | (with_reducible refine AW_exit ?_)); try simp only [thenA, blockA, if_true, if_false, reduceIte, Nat.reduceEqDiff, reduceCtorEq])
      | ((with_reducible show AW _ _ (.cond _ _ _) _ _ _); refine AW_cond rfl (fun hg => ?_) (fun hg => ?_) <;> first | (exfalso; simp only [reduceCtorEq] at hg; done) | ((try simp only [Bool.not_eq_true', Bool.not_eq_false', decide_eq_true_eq, decide_eq_false_iff_not] at hg); try (exfalso; omega)))
      | ((with_reducible show _ ∧ _); refine And.intro (fun hg => ?_) (fun hg => ?_) <;> (try simp only [Bool.not_eq_true', Bool.not_eq_false'] at hg) <;> simp only [hg] <;> (try simp only [decide_eq_true_eq, decide_eq_false_iff_not] at hg) <;> (try (exfalso; omega)))
      | ((with_reducible apply FunH_intro); (first | exact l05Levels_c _ _ _ _ _ _ _ _ (by first | assumption | exact PtL.app (by assumption) _ | exact PtL_h0 rfl | exact PtL_hj rfl) (by first | assumption | exact RdL.app (by assumption) _ | exact RdL_hj rfl (by simp) | exact RdL_h0 rfl (by simp) | exact RdL_nil | exact RdL_emp) (by first | assumption | exact RdLL.app (by assumption) _) (by first | assumption | omega | (simp; omega) | (simp; done)) | exact l01Finite_c _ _ | exact l05Own_c _ _ _ _ _ _ _ _ (by first | assumption | exact PtL.app (by assumption) _ | exact PtL_h0 rfl | exact PtL_hj rfl) (by first | assumption | exact RdL.app (by assumption) _ | exact RdL_hj rfl (by simp) | exact RdL_h0 rfl (by simp) | exact RdL_nil | exact RdL_emp) (by first | assumption | exact RdLL.app (by assumption) _) (by first | assumption | omega | (simp; omega) | (simp; done)) | exact l05Settle_c _ _ _ _ _ _ _ _ _ (by first | assumption | omega | (simp; omega) | (simp; done)) (by first | assumption | omega | (simp; omega) | (simp; done)) (by first | assumption | omega | (simp; omega) | (simp; done)) (by first | assumption | omega | (simp; omega) | (simp; done))))
      | (clear hK K)
      | fail)
    refine EndA_rows [none] hcl (by first | exact Or.inr rfl | exact Or.inl rfl) (by simp only [Try.results6, resA, aresL, go_sem] <;> rfl) (by simp) (rows := [⟨0, false, 41, 1, []⟩]) (r := .tup [.agg [.int .i64 0, .int .i64 0, .sl Hb.length 0 0 0 none], .bool false]) ?_ ?_ ?_
    · exact ⟨RowOk.none, trivial⟩
    · exact TdT.tup ⟨TdL.agg ⟨TdB.old _ trivial rfl, TdB.old _ trivial rfl, TdB.virt 0 rfl, trivial⟩, TdL.cell (TdB.old _ trivial rfl), trivial⟩
    · rw [ho]; exact ⟨rfl, rfl⟩
  · have ho' : levB (2 * q : Nat) R.2 (R.1.map fun ws => ws.map some) = true := ho
    rw [ho'] at hQ
    simp only [if_true, reduceIte] at hQ
    obtain ⟨v', P', rfl, hw', hL'⟩ := hQ
    obtain ⟨K0, rfl⟩ := hL'.pre
    have hL3 := hL'.weak.setN (b := Hb.length + 1) ⟨0, false, 27, 3, [.int .i64 (2 * q : Nat), .int .i64 R.2, .sl A v' 0 P'.length none]⟩ (by omega) (by omega) (fun k hk => by have := (hL'.row k hk).2.1; rw [List.length_append] at this; simp only [List.length_cons, List.length_nil] at this; omega)
    simp only [List.append_assoc, List.cons_append, List.nil_append, hp_setj, List.set_cons_succ, List.set_cons_zero] at hL3 ⊢
    repeat' (first
      | ((with_reducible refine hK _ _ ?_); clear hK K)
      | ((first | (with_reducible show AOp _ _ _ _ _ _ _)); simp (disch := first | ((with_reducible show liveO _ _ _ = true); first | assumption | (exact lvB) | (exact lvA) | (exact lvBA _) | (exact lvAA _) | (exact bSl _ _) | (exact aSl _ _) | (exact liveO_setS (by assumption)) | (exact PtL.live (by assumption)) | (exact PtL.liveA (by assumption) _) | (simp only [go_sem]; done)) | omega | assumption | rfl | (simp only [go_sem]; first | done | omega)) only [go_sem, reduceIte, reduceCtorEq, Nat.reduceAdd, Nat.reduceMul, Nat.reduceSub, Nat.reduceLeDiff, Nat.lt_irrefl, Nat.reduceLT, Nat.reduceEqDiff, Nat.reduceBEq, Int.reduceLE, Int.reduceLT, Int.reduceToNat, w64, eq_self])
      | (with_reducible refine AW_seq (fun K hK => ?_))
      | (with_reducible refine AW_region tyOk ?_)
      | (with_reducible refine AOps_cons (fun K hK => ?_))
      | ((with_reducible refine AOps_nil ?_); try simp only [thenA, blockA, if_true, if_false, reduceIte, Nat.reduceEqDiff, reduceCtorEq])
      | (with_reducible refine AW_block ?_)
      | ((first | (with_reducible refine AW_ret ?_) | (with_reducible refine AW_skip ?_) | (with_reducible refine AW_exit ?_)); try simp only [thenA, blockA, if_true, if_false, reduceIte, Nat.reduceEqDiff, reduceCtorEq])
      | ((with_reducible show AW _ _ (.cond _ _ _) _ _ _); refine AW_cond rfl (fun hg => ?_) (fun hg => ?_) <;> first | (exfalso; simp only [reduceCtorEq] at hg; done) | ((try simp only [Bool.not_eq_true', Bool.not_eq_false', decide_eq_true_eq, decide_eq_false_iff_not] at hg); try (exfalso; omega)))
      | ((with_reducible show _ ∧ _); refine And.intro (fun hg => ?_) (fun hg => ?_) <;> (try simp only [Bool.not_eq_true', Bool.not_eq_false'] at hg) <;> simp only [hg] <;> (try simp only [decide_eq_true_eq, decide_eq_false_iff_not] at hg) <;> (try (exfalso; omega)))
      | ((with_reducible apply FunH_intro); (first | exact l05Levels_c _ _ _ _ _ _ _ _ (by first | assumption | exact PtL.app (by assumption) _ | exact PtL_h0 rfl | exact PtL_hj rfl) (by first | assumption | exact RdL.app (by assumption) _ | exact RdL_hj rfl (by simp) | exact RdL_h0 rfl (by simp) | exact RdL_nil | exact RdL_emp) (by first | assumption | exact RdLL.app (by assumption) _) (by first | assumption | omega | (simp; omega) | (simp; done)) | exact l01Finite_c _ _ | exact l05Own_c _ _ _ _ _ _ _ _ (by first | assumption | exact PtL.app (by assumption) _ | exact PtL_h0 rfl | exact PtL_hj rfl) (by first | assumption | exact RdL.app (by assumption) _ | exact RdL_hj rfl (by simp) | exact RdL_h0 rfl (by simp) | exact RdL_nil | exact RdL_emp) (by first | assumption | exact RdLL.app (by assumption) _) (by first | assumption | omega | (simp; omega) | (simp; done)) | exact l05Settle_c _ _ _ _ _ _ _ _ _ (by first | assumption | omega | (simp; omega) | (simp; done)) (by first | assumption | omega | (simp; omega) | (simp; done)) (by first | assumption | omega | (simp; omega) | (simp; done)) (by first | assumption | omega | (simp; omega) | (simp; done))))
      | (clear hK K)
      | fail)
    obtain ⟨K1, hK1, c1, c2, c3⟩ := hL3.cut
    obtain rfl := (List.append_cancel_left hK1).symm
    refine EndA_rows (jsL Hb.length A P') hcl (by first | exact Or.inr rfl | exact Or.inl rfl) (by simp only [Try.results6, resA, aresL, go_sem] <;> rfl) c1 c2 ?_ (r := .tup [.agg [.int .i64 (2 * q : Nat), .int .i64 R.2, .sl Hb.length 0 0 P'.length none], .bool true]) ?_
    · exact TdT.tup ⟨TdL.agg ⟨TdB.old _ trivial rfl, TdB.old _ trivial rfl, c3, trivial⟩, TdL.cell (TdB.old _ trivial rfl), trivial⟩
    · have hx : sxs P' = R.1.map fun ws => ws.map some := by unfold sxs; rw [hw']
      have hxl := sxs_len P'
      rw [ho]
      unfold plQ stX
      simp only [if_true, reduceIte]
      rw [← hx, hxl]
      exact ⟨rfl, rfl⟩
end Go.Proofs.Ytonlgkecphijoaa
