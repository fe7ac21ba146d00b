/- PutLevels in the abstract machine: the program's side. -/
import Derived.Test.YteejnmgjjefbiaaZy
import Derived.Test.YteejnmgjjefbiaaYcs
import Derived.Test.YteejnmgjjefbiaaNu
namespace Go.Proofs.Yteejnmgjjefbiaa
open Go.RowKit
set_option linter.unusedSimpArgs false
set_option linter.unusedVariables false
set_option maxRecDepth 100000

set_option maxHeartbeats 8000000 in
theorem iPutLevels_c (r s : Int) (v : LV) (L : List LV) (xss : List (List (Option Nat))) (x : Option Nat) (Hb : Hp) (h : RdL Hb v L) (hL : RdLL Hb L xss) (hn : totL xss ≤ 1048576) (h20 : r ≤ 20) :
    FunH Try.prog 7 [.agg [.int .i64 r, .int .i64 s, v], .flt .f32 x] Hb (plQ Hb r (plOk r s xss x) (plS r s (putL (unw xss) (x.getD 0)))) := by
  have hv := fun K => iValidLevels_c r s v L xss (Hb ++ K) (h.app K) (hL.app K) hn
  cases e1 : levB r s xss
  · have e : plOk r s xss x = false := by unfold plOk; rw [e1]; rfl
    rw [e]
    unfold plQ stX
    simp only [Bool.false_eq_true, if_false, reduceIte]
    rw [e1] at hv
    (refine FunH_body tyOk Try.func7 rfl (by kernel_rfl) Try.ntmps7 (fun hcl hbd => ?_); simp only [List.length_cons, List.length_nil, Nat.reduceAdd, Nat.reduceSub, List.replicate, List.cons_append, List.nil_append])
    repeat' (first
 | ((with_reducible refine hK _ _ ?_); clear hK K)
 | ((first | (with_reducible show AOp _ _ _ _ _ _ _)); simp (disch := first | ((with_reducible show liveO _ _ _ = true); first | assumption | (exact lvB) | (exact lvA) | (exact lvBA _) | (exact lvAA _) | (exact bSl _ _) | (exact aSl _ _) | (exact liveO_setS (by assumption)) | (exact PtL.live (by assumption)) | (exact PtL.liveA (by assumption) _) | (simp only [go_sem]; done)) | omega | assumption | rfl | (simp only [go_sem]; first | done | omega)) only [go_sem, reduceIte, reduceCtorEq, Nat.reduceAdd, Nat.reduceMul, Nat.reduceSub, Nat.reduceLeDiff, Nat.lt_irrefl, Nat.reduceLT, Nat.reduceEqDiff, Nat.reduceBEq, Int.reduceLE, Int.reduceLT, Int.reduceToNat, w64, eq_self, h.isCell])
 | (with_reducible refine AW_seq (fun K hK => ?_))
 | (with_reducible refine AW_region tyOk ?_)
 | (with_reducible refine AOps_cons (fun K hK => ?_))
 | ((with_reducible refine AOps_nil ?_); try simp only [thenA, blockA, if_true, if_false, reduceIte, Nat.reduceEqDiff, reduceCtorEq])
 | (with_reducible refine AW_block ?_)
 | ((first | (with_reducible refine AW_ret ?_) | (with_reducible refine AW_skip ?_) | (with_reducible refine AW_exit ?_)); try simp only [thenA, blockA, if_true, if_false, reduceIte, Nat.reduceEqDiff, reduceCtorEq])
 | ((with_reducible show AW _ _ (.cond _ _ _) _ _ _); refine AW_cond rfl (fun hg => ?_) (fun hg => ?_) <;> first | (exfalso; simp only [reduceCtorEq] at hg; done) | ((try simp only [Bool.not_eq_true', Bool.not_eq_false', decide_eq_true_eq, decide_eq_false_iff_not] at hg); try (exfalso; omega)))
 | ((with_reducible show _ ∧ _); refine And.intro (fun hg => ?_) (fun hg => ?_) <;> (try simp only [Bool.not_eq_true', Bool.not_eq_false'] at hg) <;> simp only [hg] <;> (try simp only [decide_eq_true_eq, decide_eq_false_iff_not] at hg) <;> (try (exfalso; omega)))
 | ((with_reducible apply FunH_intro); (first | exact hv _ | exact iValidLevels_c _ _ _ _ _ _ (by first | assumption | exact RdL.app (by assumption) _ | exact RdL_hj rfl (by simp) | exact RdL_h0 rfl (by simp) | exact RdL_nil | exact RdL_emp) (by first | assumption | exact RdLL.app (by assumption) _) (by first | assumption | omega | (simp; omega) | (simp; done)) | exact IsFinite_c _ _ | exact copyLevels_c _ _ _ _ _ _ (by first | assumption | exact RdL.app (by assumption) _ | exact RdL_hj rfl (by simp) | exact RdL_h0 rfl (by simp) | exact RdL_nil | exact RdL_emp) (by first | assumption | exact RdLL.app (by assumption) _) (by first | assumption | omega | (simp; omega) | (simp; done)) | exact settle_c _ _ _ _ _ _ _ _ _ (by first | assumption | omega | (simp; omega) | (simp; done)) (by first | assumption | omega | (simp; omega) | (simp; done)) (by first | assumption | omega | (simp; omega) | (simp; done)) (by first | assumption | omega | (simp; omega) | (simp; done)) | exact settle_c _ _ _ _ _ _ _ _ _ (by first | assumption | omega | (simp; omega) | (simp; done)) (by first | assumption | omega | (simp; omega) | (simp; done)) (by first | assumption | omega | (simp; omega) | (simp; done)) (by first | assumption | omega | (simp; omega) | (simp; done))))
 | (clear hK K)
      | fail)
    refine EndA_rows [none] hcl (by first | exact Or.inr rfl | exact Or.inl rfl) (by simp only [Try.results7, resA, aresL, go_sem] <;> rfl) (by simp) ?_ ?_ ⟨rfl, rfl⟩
    · exact ⟨RowOk.none, trivial⟩
    · exact TdT.tup ⟨TdL.agg ⟨TdB.old _ trivial rfl, TdB.old _ trivial rfl, TdB.virt 0 rfl, trivial⟩, TdL.cell (TdB.old _ trivial rfl), trivial⟩
  rw [e1] at hv
  cases e2 : finO x
  · have e : plOk r s xss x = false := by unfold plOk; rw [e1, e2]; rfl
    rw [e]
    unfold plQ stX
    simp only [Bool.false_eq_true, if_false, reduceIte]
    (refine FunH_body tyOk Try.func7 rfl (by kernel_rfl) Try.ntmps7 (fun hcl hbd => ?_); simp only [List.length_cons, List.length_nil, Nat.reduceAdd, Nat.reduceSub, List.replicate, List.cons_append, List.nil_append])
    repeat' (first
 | ((with_reducible refine hK _ _ ?_); clear hK K)
 | ((first | (with_reducible show AOp _ _ _ _ _ _ _)); simp (disch := first | ((with_reducible show liveO _ _ _ = true); first | assumption | (exact lvB) | (exact lvA) | (exact lvBA _) | (exact lvAA _) | (exact bSl _ _) | (exact aSl _ _) | (exact liveO_setS (by assumption)) | (exact PtL.live (by assumption)) | (exact PtL.liveA (by assumption) _) | (simp only [go_sem]; done)) | omega | assumption | rfl | (simp only [go_sem]; first | done | omega)) only [go_sem, reduceIte, reduceCtorEq, Nat.reduceAdd, Nat.reduceMul, Nat.reduceSub, Nat.reduceLeDiff, Nat.lt_irrefl, Nat.reduceLT, Nat.reduceEqDiff, Nat.reduceBEq, Int.reduceLE, Int.reduceLT, Int.reduceToNat, w64, eq_self, h.isCell, e2])
 | (with_reducible refine AW_seq (fun K hK => ?_))
 | (with_reducible refine AW_region tyOk ?_)
 | (with_reducible refine AOps_cons (fun K hK => ?_))
 | ((with_reducible refine AOps_nil ?_); try simp only [thenA, blockA, if_true, if_false, reduceIte, Nat.reduceEqDiff, reduceCtorEq])
 | (with_reducible refine AW_block ?_)
 | ((first | (with_reducible refine AW_ret ?_) | (with_reducible refine AW_skip ?_) | (with_reducible refine AW_exit ?_)); try simp only [thenA, blockA, if_true, if_false, reduceIte, Nat.reduceEqDiff, reduceCtorEq])
 | ((with_reducible show AW _ _ (.cond _ _ _) _ _ _); refine AW_cond rfl (fun hg => ?_) (fun hg => ?_) <;> first | (exfalso; simp only [reduceCtorEq] at hg; done) | ((try simp only [Bool.not_eq_true', Bool.not_eq_false', decide_eq_true_eq, decide_eq_false_iff_not] at hg); try (exfalso; omega)))
 | ((with_reducible show _ ∧ _); refine And.intro (fun hg => ?_) (fun hg => ?_) <;> (try simp only [Bool.not_eq_true', Bool.not_eq_false'] at hg) <;> simp only [hg] <;> (try simp only [decide_eq_true_eq, decide_eq_false_iff_not] at hg) <;> (try (exfalso; omega)))
 | ((with_reducible apply FunH_intro); (first | exact hv _ | exact iValidLevels_c _ _ _ _ _ _ (by first | assumption | exact RdL.app (by assumption) _ | exact RdL_hj rfl (by simp) | exact RdL_h0 rfl (by simp) | exact RdL_nil | exact RdL_emp) (by first | assumption | exact RdLL.app (by assumption) _) (by first | assumption | omega | (simp; omega) | (simp; done)) | exact IsFinite_c _ _ | exact copyLevels_c _ _ _ _ _ _ (by first | assumption | exact RdL.app (by assumption) _ | exact RdL_hj rfl (by simp) | exact RdL_h0 rfl (by simp) | exact RdL_nil | exact RdL_emp) (by first | assumption | exact RdLL.app (by assumption) _) (by first | assumption | omega | (simp; omega) | (simp; done)) | exact settle_c _ _ _ _ _ _ _ _ _ (by first | assumption | omega | (simp; omega) | (simp; done)) (by first | assumption | omega | (simp; omega) | (simp; done)) (by first | assumption | omega | (simp; omega) | (simp; done)) (by first | assumption | omega | (simp; omega) | (simp; done)) | exact settle_c _ _ _ _ _ _ _ _ _ (by first | assumption | omega | (simp; omega) | (simp; done)) (by first | assumption | omega | (simp; omega) | (simp; done)) (by first | assumption | omega | (simp; omega) | (simp; done)) (by first | assumption | omega | (simp; omega) | (simp; done))))
 | (clear hK K)
      | fail)
    refine EndA_rows [none] hcl (by first | exact Or.inr rfl | exact Or.inl rfl) (by simp only [Try.results7, resA, aresL, go_sem] <;> rfl) (by simp) ?_ ?_ ⟨rfl, rfl⟩
    · exact ⟨RowOk.none, trivial⟩
    · exact TdT.tup ⟨TdL.agg ⟨TdB.old _ trivial rfl, TdB.old _ trivial rfl, TdB.virt 0 rfl, trivial⟩, TdL.cell (TdB.old _ trivial rfl), trivial⟩
  obtain ⟨ls, rfl⟩ : ∃ ls : List (List Nat), xss = ls.map fun ws => ws.map some := words_L (by
    intro xs hx
    unfold levB at e1
    simp only [Bool.and_eq_true] at e1
    have := List.all_eq_true.1 e1.2 xs hx
    unfold levP at this
    simp only [Bool.and_eq_true] at this
    exact this.2)
  obtain ⟨w, rfl⟩ : ∃ w, x = some w := by cases x with
    | none => cases e2
    | some w => exact ⟨w, rfl⟩
  have eo : plOk r s (ls.map fun ws => ws.map some) (some w) = stOk r (plS r s (putL ls w)) := by
    unfold plOk; rw [e1, e2, unw_map]; rfl
  rw [eo, unw_map]
  have eg : (some w : Option Nat).getD 0 = w := rfl
  rw [eg]
  have hcp := fun K => copyLevels_c r s v L _ (Hb ++ K) (h.app K) (hL.app K) hn
  simp only [List.length_map, List.length_append] at hcp
  have hrl : (List.map rowF (List.map (fun ws : List Nat => ws.map some) ls)).length = ls.length := by rw [List.length_map, List.length_map]
  have e3 := e1
  unfold levB at e3
  simp only [Bool.and_eq_true, decide_eq_true_eq, beq_iff_eq, inB, List.length_map] at e3
  obtain ⟨⟨⟨⟨⟨⟨hr2, hr64⟩, hrm⟩, hs0, hs1⟩, hl1⟩, hl16⟩, -⟩ := e3
  obtain ⟨q, rfl⟩ : ∃ q : Nat, r = ((2 * q : Nat) : Int) := ⟨(r / 2).toNat, by
    have h1 := Int.tmod_eq_emod_of_nonneg (a := r) (b := 2) (by omega)
    omega⟩
  have hq2 : (((2 * q : Nat) : Int) / 2).toNat = q := by omega
  have hR : stl q (plN (putL ls w)) 0 (putL ls w) s = plS (2 * q : Nat) s (putL ls w) := by unfold plS; rw [hq2]
  obtain ⟨R, hRe⟩ : ∃ R, plS (2 * q : Nat) s (putL ls w) = R := ⟨_, rfl⟩
  rw [hRe] at hR eo ⊢
  have htw : totW ls ≤ 64 * ls.length := by
    refine totW_le fun ws hws => ?_
    unfold levB at e1
    simp only [Bool.and_eq_true] at e1
    have := List.all_eq_true.1 e1.2 _ (List.mem_map_of_mem hws)
    unfold levP at this
    simp only [Bool.and_eq_true, decide_eq_true_eq, List.length_map] at this
    omega
  (refine FunH_body tyOk Try.func7 rfl (by kernel_rfl) Try.ntmps7 (fun hcl hbd => ?_); simp only [List.length_cons, List.length_nil, Nat.reduceAdd, Nat.reduceSub, List.replicate, List.cons_append, List.nil_append])
  repeat' (first
 | ((with_reducible refine hK _ _ ?_); clear hK K)
 | ((first | (with_reducible show AOp _ _ _ _ _ _ _)); simp (disch := first | ((with_reducible show liveO _ _ _ = true); first | assumption | (exact lvB) | (exact lvA) | (exact lvBA _) | (exact lvAA _) | (exact bSl _ _) | (exact aSl _ _) | (exact liveO_setS (by assumption)) | (exact PtL.live (by assumption)) | (exact PtL.liveA (by assumption) _) | (simp only [go_sem]; done)) | omega | assumption | rfl | (simp only [go_sem]; first | done | omega)) only [go_sem, reduceIte, reduceCtorEq, Nat.reduceAdd, Nat.reduceMul, Nat.reduceSub, Nat.reduceLeDiff, Nat.lt_irrefl, Nat.reduceLT, Nat.reduceEqDiff, Nat.reduceBEq, Int.reduceLE, Int.reduceLT, Int.reduceToNat, w64, eq_self, h.isCell, e2, hput_l0 hrl])
 | ((with_reducible refine AW_seqN [4] ?_ (fun K hK => ?_)); (exact rfl))
 | (with_reducible refine AW_region tyOk ?_)
 | (with_reducible refine AOps_cons (fun K hK => ?_))
 | ((with_reducible refine AOps_nil ?_); try simp only [thenA, blockA, if_true, if_false, reduceIte, Nat.reduceEqDiff, reduceCtorEq])
 | (with_reducible refine AW_block ?_)
 | ((first | (with_reducible refine AW_ret ?_) | (with_reducible refine AW_skip ?_) | (with_reducible refine AW_exit ?_)); try simp only [thenA, blockA, if_true, if_false, reduceIte, Nat.reduceEqDiff, reduceCtorEq])
 | ((with_reducible show AW _ _ (.cond _ _ _) _ _ _); refine AW_cond rfl (fun hg => ?_) (fun hg => ?_) <;> first | (exfalso; simp only [reduceCtorEq] at hg; done) | ((try simp only [Bool.not_eq_true', Bool.not_eq_false', decide_eq_true_eq, decide_eq_false_iff_not] at hg); try (exfalso; omega)))
 | ((with_reducible show _ ∧ _); refine And.intro (fun hg => ?_) (fun hg => ?_) <;> (try simp only [Bool.not_eq_true', Bool.not_eq_false'] at hg) <;> simp only [hg] <;> (try simp only [decide_eq_true_eq, decide_eq_false_iff_not] at hg) <;> (try (exfalso; omega)))
 | ((with_reducible apply FunH_intro); (first | exact hv _ | exact hcp _ | exact iValidLevels_c _ _ _ _ _ _ (by first | assumption | exact RdL.app (by assumption) _ | exact RdL_hj rfl (by simp) | exact RdL_h0 rfl (by simp) | exact RdL_nil | exact RdL_emp) (by first | assumption | exact RdLL.app (by assumption) _) (by first | assumption | omega | (simp; omega) | (simp; done)) | exact IsFinite_c _ _ | exact copyLevels_c _ _ _ _ _ _ (by first | assumption | exact RdL.app (by assumption) _ | exact RdL_hj rfl (by simp) | exact RdL_h0 rfl (by simp) | exact RdL_nil | exact RdL_emp) (by first | assumption | exact RdLL.app (by assumption) _) (by first | assumption | omega | (simp; omega) | (simp; done)) | exact settle_c _ _ _ _ _ _ _ _ _ (by first | assumption | omega | (simp; omega) | (simp; done)) (by first | assumption | omega | (simp; omega) | (simp; done)) (by first | assumption | omega | (simp; omega) | (simp; done)) (by first | assumption | omega | (simp; omega) | (simp; done)) | exact settle_c _ _ _ _ _ _ _ _ _ (by first | assumption | omega | (simp; omega) | (simp; done)) (by first | assumption | omega | (simp; omega) | (simp; done)) (by first | assumption | omega | (simp; omega) | (simp; done)) (by first | assumption | omega | (simp; omega) | (simp; done))))
 | (clear hK K)
    | fail)
  have hLS := LS.copy (H := Hb ++ [⟨0, false, 29, 3, [.int .i64 (2 * q : Nat), .int .i64 s, v]⟩, rsL]) (a := 2) (ls := ls) (G := bxL (2 * q : Nat) s (Hb.length + 4) 0 ls.length :: bxL (2 * q : Nat) s (Hb.length + 4) 0 ls.length :: ⟨0, false, 25, 1, rowsL (Hb.length + 5) (ls.map fun ws => ws.map some)⟩ :: ((ls.map fun ws => ws.map some).map rowF ++ [bxL (2 * q : Nat) s (Hb.length + 4) 0 ls.length])) (by simp) (fun k hk => by
    rw [show 2 + 1 + k = k + 1 + 1 + 1 by omega]
    simp only [List.getElem?_cons_succ]
    rw [List.getElem?_append_left (by rw [hrl]; exact hk), List.getElem?_map, List.getElem?_map, ix_get? _ _ hk]; rfl)
  simp only [List.length_append, List.length_cons, List.length_nil, Nat.zero_add, Nat.add_assoc, Nat.reduceAdd, List.append_assoc, List.cons_append, List.nil_append] at hLS
  obtain ⟨H, hH⟩ : ∃ H, Hb ++ ((⟨0, false, 29, 3, [.int .i64 (2 * q : Nat), .int .i64 s, v]⟩ : AO) :: rsL :: bxL (2 * q : Nat) s (Hb.length + 4) 0 ls.length :: bxL (2 * q : Nat) s (Hb.length + 4) 0 ls.length :: ⟨0, false, 25, 1, rowsL (Hb.length + 5) (ls.map fun ws => ws.map some)⟩ :: ((ls.map fun ws => ws.map some).map rowF ++ [bxL (2 * q : Nat) s (Hb.length + 4) 0 ls.length])) = H := ⟨_, rfl⟩
  have hb0 : H[Hb.length + (ls.length + 5)]? = some (bxL (2 * q : Nat) s (Hb.length + 4) 0 ls.length) := by
    rw [← hH, hp_getj]
    simp only [List.getElem?_cons_succ]
    rw [List.getElem?_append_right (by rw [hrl]; exact Nat.le_refl _), hrl, Nat.sub_self]; rfl
  simp only [bxL, rsL] at hLS hH hb0
  rw [hH] at hLS ⊢
  have hP0 := cpR_ix (Hb.length + 5) ls 0 hl1
  have hPl := cpR_len (Hb.length + 5) ls
  have hPw := wR_cpR (Hb.length + 5) ls
  obtain ⟨P, hP⟩ : ∃ P, cpR (Hb.length + 5) ls = P := ⟨_, rfl⟩
  rw [hP] at hLS hP0 hPl hPw
  obtain ⟨A, hA⟩ : ∃ A, Hb.length + 4 = A := ⟨_, rfl⟩
  obtain ⟨B, hB⟩ : ∃ B, Hb.length + (ls.length + 5) = B := ⟨_, rfl⟩
  obtain ⟨i1, hi1⟩ : ∃ i1, Hb.length + 5 + 0 = i1 := ⟨_, rfl⟩
  obtain ⟨w0, hw0⟩ : ∃ w0, ix ls 0 = w0 := ⟨_, rfl⟩
  rw [hi1, hw0] at hP0
  simp only [hA, hB] at hLS hb0 ⊢
  have nAB : A ≠ B := by omega
  have n1A : i1 ≠ A := by omega
  have n1B : i1 ≠ B := by omega
  have hg3 : 0 < P.length := by omega
  have hoA := hLS.out
  have o1 : H[i1]? = some ⟨0, false, 32, 1, w0.map Fw⟩ := by have := (hLS.row 0 hg3).1; rw [hP0] at this; exact this
  have hcell : (P.map cR)[0]? = some (.sl i1 0 0 w0.length none) := by rw [List.getElem?_map, ix_get? _ _ hg3, hP0]; rfl
  have hwn : w0.length ≤ 1048576 := by
    have h1 := totL_w ls
    have h2 := totW_at hl1
    rw [hw0] at h2
    omega
  have o1A : ∀ L, (H ++ L)[i1]? = some ⟨0, false, 32, 1, w0.map Fw⟩ := at_app o1
  have lvB : liveO H B 0 = true := liveO_at hb0
  have lvA : liveO H A 0 = true := liveO_at hoA
  have lvBA : ∀ L, liveO (H ++ L) B 0 = true := fun L => liveO_at (at_app hb0 L)
  have lvAA : ∀ L, liveO (H ++ L) A 0 = true := fun L => liveO_at (at_app hoA L)
  have gB : ∀ j, hget H B 0 j = ([.int .i64 (2 * q : Nat), .int .i64 s, .sl A 0 0 ls.length none] : List LV)[j]? := fun j => hget_at hb0
  have gBA : ∀ L j, hget (H ++ L) B 0 j = ([.int .i64 (2 * q : Nat), .int .i64 s, .sl A 0 0 ls.length none] : List LV)[j]? := fun L j => hget_at (at_app hb0 L)
  have gA : ∀ j, hget H A 0 j = (P.map cR)[j]? := fun j => hget_at hoA
  have gAA : ∀ L j, hget (H ++ L) A 0 j = (P.map cR)[j]? := fun L j => hget_at (at_app hoA L)
  have bS : ∀ (o : AO) (L : Hp), ((H ++ L).set i1 o)[B]? = some ⟨0, false, 29, 3, [.int .i64 (2 * q : Nat), .int .i64 s, .sl A 0 0 ls.length none]⟩ := fun o L => by rw [List.getElem?_set_ne n1B]; exact at_app hb0 L
  have aS : ∀ (o : AO) (L : Hp), ((H ++ L).set i1 o)[A]? = some ⟨0, false, 25, 1, P.map cR⟩ := fun o L => by rw [List.getElem?_set_ne n1A]; exact at_app hoA L
  have bSl : ∀ (o : AO) (L : Hp), liveO ((H ++ L).set i1 o) B 0 = true := fun o L => liveO_at (bS o L)
  have aSl : ∀ (o : AO) (L : Hp), liveO ((H ++ L).set i1 o) A 0 = true := fun o L => liveO_at (aS o L)
  have bSg : ∀ (o : AO) (L : Hp) (j : Nat), hget ((H ++ L).set i1 o) B 0 j = ([.int .i64 (2 * q : Nat), .int .i64 s, .sl A 0 0 ls.length none] : List LV)[j]? := fun o L j => hget_at (bS o L)
  have aSp : ∀ (o : AO) (L : Hp) (x : LV), hput ((H ++ L).set i1 o) A 0 0 [x] = some (((H ++ L).set i1 o).set A ⟨0, false, 25, 1, (P.map cR).set 0 x⟩) := fun o L x => hputA_at (aS o L) (by simp; omega)
  have hwc : (w0.map Fw).length = w0.length := List.length_map ..
  have hwa : (w0.map Fw).all LV.isCell = true := by rw [List.all_eq_true]; intro x hx; obtain ⟨y, _, rfl⟩ := List.mem_map.1 hx; rfl
  have bS3 : ∀ (o o2 : AO) (L : Hp), hgets (((H ++ L).set i1 o).set A o2) B 0 0 3 = some [.int .i64 (2 * q : Nat), .int .i64 s, .sl A 0 0 ls.length none] := fun o o2 L => by
    have h1 : (((H ++ L).set i1 o).set A o2)[B]? = _ := (List.getElem?_set_ne nAB).trans (bS o L)
    simp [hgets, h1]
  repeat' (first
 | ((with_reducible refine hK _ _ ?_); clear hK K)
 | ((with_reducible refine hK _ ?_); clear hK K; try simp only [])
 | ((with_reducible refine hK _ _ ?_ ?_); (first | exact Or.inl rfl | (with_reducible exact Or.inr id) | exact Or.inr (fun _ => by (first | exact ⟨_, by rw [hp_setj, List.append_assoc]; rfl⟩ | exact ⟨_, by rw [List.append_assoc]; rfl⟩ | exact ⟨_, rfl⟩ | exact ⟨_, by rw [List.append_assoc]; rfl⟩ | exact ⟨_, by simp only [List.append_assoc, List.cons_append, List.nil_append]; rfl⟩ | exact ⟨_, by rw [hp_setj, List.append_assoc]; rfl⟩ | exact ⟨_, hp_setj _ _ _ _⟩ | exact ⟨[], (List.append_nil _).symm⟩))); clear hK K; (try simp only [hp_setj, hp_set0, List.set_cons_succ, List.set_cons_zero, Nat.zero_add, Nat.reduceAdd, List.append_assoc, List.cons_append, List.nil_append, List.length_append, List.length_cons, List.length_nil, gB, gA, gBA, gAA, bSg, aSp, bS3, hcell, o1A, hwc, hwa]))
 | ((first | (with_reducible show AOp _ _ _ _ _ _ _) | (with_reducible show AQOp _ _ _ _ _ _ _)); simp (disch := first | ((with_reducible show liveO _ _ _ = true); first | assumption | (exact lvB) | (exact lvA) | (exact lvBA _) | (exact lvAA _) | (exact bSl _ _) | (exact aSl _ _) | (exact liveO_setS (by assumption)) | (exact PtL.live (by assumption)) | (exact PtL.liveA (by assumption) _) | (simp only [go_sem]; done)) | omega | assumption | rfl | (simp only [go_sem]; first | done | omega)) only [go_sem, reduceIte, reduceCtorEq, Nat.reduceAdd, Nat.reduceMul, Nat.reduceSub, Nat.reduceLeDiff, Nat.lt_irrefl, Nat.reduceLT, Nat.reduceEqDiff, Nat.reduceBEq, Int.reduceLE, Int.reduceLT, Int.reduceToNat, w64, eq_self, gB, gA, gBA, gAA, bSg, aSp, bS3, hcell, o1A, hwc, hwa])
 | (with_reducible refine AW_seq (fun K hK => ?_))
 | (with_reducible refine AW_region tyOk ?_)
 | ((with_reducible apply AW_treeV (id := 4) tyOk 11 [(7, H.length)] [(32, 1)] [8, 9, 10]); (kernel_rfl); (exact rfl); simp only [List.map_cons, List.map_nil, List.append_assoc, List.cons_append, List.nil_append])
 | ((with_reducible refine AAnyR_leaf (by decide +kernel) ?_); (with_reducible exact Wk.refl))
 | ((with_reducible show AAnyR _ _ _ _ _ _ _ _ _ _ _ _); (first | (with_reducible refine AAnyR_canon (listed := Array.replicate 11 false) (mB 11 0) (by decide +kernel) ?_) | ((with_reducible refine AAnyR_quiet (listed := (mB 11 0)) 2 rfl rfl ?_ (by decide +kernel) (by decide +kernel) (by decide +kernel) (by decide +kernel) (by (first | exact ⟨_, rfl⟩ | exact ⟨_, by rw [List.append_assoc]; rfl⟩ | exact ⟨_, by simp only [List.append_assoc, List.cons_append, List.nil_append]; rfl⟩ | exact ⟨_, by rw [hp_setj, List.append_assoc]; rfl⟩ | exact ⟨_, hp_setj _ _ _ _⟩ | exact ⟨[], (List.append_nil _).symm⟩)) (fun K hK => ?_)); (exact rfl)) | (with_reducible refine AAnyR_canon (listed := Array.setIfInBounds (mB 11 0) 2 true) (mB 11 4) (by decide +kernel) ?vs4_4) | ((with_reducible refine AAnyR_quiet (listed := (mB 11 4)) 3 rfl rfl ?_ (by decide +kernel) (by decide +kernel) (by decide +kernel) (by decide +kernel) (by (first | exact ⟨_, rfl⟩ | exact ⟨_, by rw [List.append_assoc]; rfl⟩ | exact ⟨_, by simp only [List.append_assoc, List.cons_append, List.nil_append]; rfl⟩ | exact ⟨_, by rw [hp_setj, List.append_assoc]; rfl⟩ | exact ⟨_, hp_setj _ _ _ _⟩ | exact ⟨[], (List.append_nil _).symm⟩)) (fun K hK => ?_)); (exact rfl)) | (with_reducible refine AAnyR_canon (listed := Array.setIfInBounds (mB 11 4) 3 true) (mB 11 12) (by decide +kernel) ?vs4_12) | ((with_reducible refine AAnyR_quiet (listed := (mB 11 12)) 4 rfl rfl ?_ (by decide +kernel) (by decide +kernel) (by decide +kernel) (by decide +kernel) (by (first | exact ⟨_, rfl⟩ | exact ⟨_, by rw [List.append_assoc]; rfl⟩ | exact ⟨_, by simp only [List.append_assoc, List.cons_append, List.nil_append]; rfl⟩ | exact ⟨_, by rw [hp_setj, List.append_assoc]; rfl⟩ | exact ⟨_, hp_setj _ _ _ _⟩ | exact ⟨[], (List.append_nil _).symm⟩)) (fun K hK => ?_)); (exact rfl)) | (with_reducible refine AAnyR_canon (listed := Array.setIfInBounds (mB 11 12) 4 true) (mB 11 28) (by decide +kernel) ?vs4_28) | ((with_reducible refine AAnyR_quiet (listed := (mB 11 28)) 5 rfl rfl ?_ (by decide +kernel) (by decide +kernel) (by decide +kernel) (by decide +kernel) (by (first | exact ⟨_, rfl⟩ | exact ⟨_, by rw [List.append_assoc]; rfl⟩ | exact ⟨_, by simp only [List.append_assoc, List.cons_append, List.nil_append]; rfl⟩ | exact ⟨_, by rw [hp_setj, List.append_assoc]; rfl⟩ | exact ⟨_, hp_setj _ _ _ _⟩ | exact ⟨[], (List.append_nil _).symm⟩)) (fun K hK => ?_)); (exact rfl)) | (with_reducible refine AAnyR_canon (listed := Array.setIfInBounds (mB 11 28) 5 true) (mB 11 60) (by decide +kernel) ?vs4_60) | ((with_reducible refine AAnyR_quiet (listed := (mB 11 60)) 6 rfl rfl ?_ (by decide +kernel) (by decide +kernel) (by decide +kernel) (by decide +kernel) (by (first | exact ⟨_, rfl⟩ | exact ⟨_, by rw [List.append_assoc]; rfl⟩ | exact ⟨_, by simp only [List.append_assoc, List.cons_append, List.nil_append]; rfl⟩ | exact ⟨_, by rw [hp_setj, List.append_assoc]; rfl⟩ | exact ⟨_, hp_setj _ _ _ _⟩ | exact ⟨[], (List.append_nil _).symm⟩)) (fun K hK => ?_)); (exact rfl)) | (with_reducible refine AAnyR_canon (listed := Array.setIfInBounds (mB 11 60) 6 true) (mB 11 124) (by decide +kernel) ?vs4_124) | ((with_reducible refine AAnyR_step (listed := (mB 11 124)) 0 [7] ?_ ?_); (decide +kernel)) | (with_reducible refine AAnyR_canon (listed := Array.setIfInBounds (mB 11 124) 0 true) (mB 11 125) (by decide +kernel) ?vs4_125) | (with_reducible refine AAnyR_canon (listed := Array.setIfInBounds (mB 11 124) 7 true) (mB 11 252) (by decide +kernel) ?vs4_252) | ((with_reducible refine AAnyR_step (listed := (mB 11 125)) 1 [7] ?_ ?_); (decide +kernel)) | (with_reducible refine AAnyR_canon (listed := Array.setIfInBounds (mB 11 125) 1 true) (mB 11 127) (by decide +kernel) ?vs4_127) | (with_reducible refine AAnyR_canon (listed := Array.setIfInBounds (mB 11 125) 7 true) (mB 11 253) (by decide +kernel) ?vs4_253) | ((with_reducible refine AAnyR_step (listed := (mB 11 127)) 7 [] ?_ ?_); (decide +kernel)) | (with_reducible refine AAnyR_canon (listed := Array.setIfInBounds (mB 11 127) 7 true) (mB 11 255) (by decide +kernel) ?vs4_255) | ((with_reducible refine AAnyR_step (listed := (mB 11 255)) 8 [] ?_ ?_); (decide +kernel)) | (with_reducible refine AAnyR_canon (listed := Array.setIfInBounds (mB 11 255) 8 true) (mB 11 511) (by decide +kernel) ?vs4_511) | ((with_reducible refine AAnyR_step (listed := (mB 11 511)) 9 [] ?_ ?_); (decide +kernel)) | (with_reducible refine AAnyR_canon (listed := Array.setIfInBounds (mB 11 511) 9 true) (mB 11 1023) (by decide +kernel) ?vs4_1023) | ((with_reducible refine AAnyR_step (listed := (mB 11 1023)) 10 [] ?_ ?_); (decide +kernel)) | (with_reducible refine AAnyR_canon (listed := Array.setIfInBounds (mB 11 1023) 10 true) (mB 11 2047) (by decide +kernel) ?vs4_2047) | ((with_reducible refine AAnyR_step (listed := (mB 11 253)) 1 [8] ?_ ?_); (decide +kernel)) | (with_reducible refine AAnyR_canon (listed := Array.setIfInBounds (mB 11 253) 1 true) (mB 11 255) (by decide +kernel) ?vs4_255) | (with_reducible refine AAnyR_canon (listed := Array.setIfInBounds (mB 11 253) 8 true) (mB 11 509) (by decide +kernel) ?vs4_509) | ((with_reducible refine AAnyR_step (listed := (mB 11 509)) 1 [] ?_ ?_); (decide +kernel)) | (with_reducible refine AAnyR_canon (listed := Array.setIfInBounds (mB 11 509) 1 true) (mB 11 511) (by decide +kernel) ?vs4_511) | ((with_reducible refine AAnyR_step (listed := (mB 11 252)) 0 [8] ?_ ?_); (decide +kernel)) | (with_reducible refine AAnyR_canon (listed := Array.setIfInBounds (mB 11 252) 0 true) (mB 11 253) (by decide +kernel) ?vs4_253) | (with_reducible refine AAnyR_canon (listed := Array.setIfInBounds (mB 11 252) 8 true) (mB 11 508) (by decide +kernel) ?vs4_508) | ((with_reducible refine AAnyR_step (listed := (mB 11 508)) 0 [] ?_ ?_); (decide +kernel)) | (with_reducible refine AAnyR_canon (listed := Array.setIfInBounds (mB 11 508) 0 true) (mB 11 509) (by decide +kernel) ?vs4_509)))
 | ((with_reducible refine AAllR_res (i := 7) (H.length) 25 ?_ rfl ?_ (fun K hK => ?_) ?_); (exact rfl); (exact rfl))
 | ((with_reducible show RK _ _ _ _ _ _); (try simp only [List.append_assoc, List.cons_append, List.nil_append, hp_setj, List.set_cons_succ, List.set_cons_zero]); refine RK_intro _ (by first | exact List.append_assoc _ _ _ | rfl) (by first | exact (hp_getj _ _ _).trans rfl | exact (hp_get0 _ _).trans rfl) rfl rfl (by intro c hc; simp only [List.mem_cons, List.not_mem_nil, or_false] at hc; (try (rcases hc with rfl | rfl | rfl | rfl | rfl)) <;> first | exact trivial | (subst hc; exact trivial) | (cases hc; done)) (by first | exact ⟨_, _, rfl, by simp, Or.inl rfl⟩ | exact ⟨_, _, rfl, by simp, Or.inr ⟨_, rfl⟩⟩) ?_; simp only [hp_setj, hp_set0, List.set_cons_succ, List.set_cons_zero, List.getD_cons_succ, List.getD_cons_zero, reloc]; refine ⟨Or.inr (fun _ => by (first | exact ⟨_, rfl⟩ | exact ⟨_, by rw [List.append_assoc]; rfl⟩ | exact ⟨_, by simp only [List.append_assoc, List.cons_append, List.nil_append]; rfl⟩ | exact ⟨_, by rw [hp_setj, List.append_assoc]; rfl⟩ | exact ⟨_, hp_setj _ _ _ _⟩ | exact ⟨[], (List.append_nil _).symm⟩)), ?_⟩)
 | ((with_reducible refine AAllR_cons ?_ rfl (fun K hK => ?_) ?_); (exact rfl))
 | (with_reducible exact AAllR_nil)
 | ((with_reducible show thenA _ _ _ _ _); simp only [thenA, blockA, if_true, if_false, reduceIte])
 | ((with_reducible show blockA _ _ _ _ _); simp only [thenA, blockA, if_true, if_false, reduceIte, Nat.reduceEqDiff, reduceCtorEq])
 | (with_reducible refine AOps_cons (fun K hK => ?_))
 | (with_reducible refine AQOps_cons (fun K hK => ?_))
 | ((with_reducible refine AQOps_nil ?_); try simp only [thenA, blockA, if_true, if_false, reduceIte, Nat.reduceEqDiff, reduceCtorEq])
 | ((with_reducible refine AOps_nil ?_); try simp only [thenA, blockA, if_true, if_false, reduceIte, Nat.reduceEqDiff, reduceCtorEq])
 | (with_reducible refine AW_block ?_)
 | ((first | (with_reducible refine AW_ret ?_) | (with_reducible refine AW_skip ?_) | (with_reducible refine AW_exit ?_)); try simp only [thenA, blockA, if_true, if_false, reduceIte, Nat.reduceEqDiff, reduceCtorEq])
 | ((with_reducible show AW _ _ (.cond _ _ _) _ _ _); refine AW_cond rfl (fun hg => ?_) (fun hg => ?_) <;> first | (exfalso; simp only [reduceCtorEq] at hg; done) | ((try simp only [Bool.not_eq_true', Bool.not_eq_false', decide_eq_true_eq, decide_eq_false_iff_not] at hg); try (exfalso; omega)))
 | ((with_reducible show _ ∧ _); refine And.intro (fun hg => ?_) (fun hg => ?_) <;> (try simp only [Bool.not_eq_true', Bool.not_eq_false'] at hg) <;> simp only [hg] <;> (try simp only [decide_eq_true_eq, decide_eq_false_iff_not] at hg) <;> (try (exfalso; omega)))
 | ((first | (with_reducible apply FunH_intro) | (with_reducible apply AQ_intro)); (first | exact iValidLevels_c _ _ _ _ _ _ (by first | assumption | exact RdL.app (by assumption) _ | exact RdL_hj rfl (by simp) | exact RdL_h0 rfl (by simp) | exact RdL_nil | exact RdL_emp) (by first | assumption | exact RdLL.app (by assumption) _) (by first | assumption | omega | (simp; omega) | (simp; done)) | exact IsFinite_c _ _ | exact copyLevels_c _ _ _ _ _ _ (by first | assumption | exact RdL.app (by assumption) _ | exact RdL_hj rfl (by simp) | exact RdL_h0 rfl (by simp) | exact RdL_nil | exact RdL_emp) (by first | assumption | exact RdLL.app (by assumption) _) (by first | assumption | omega | (simp; omega) | (simp; done)) | exact settle_c _ _ _ _ _ _ _ _ _ (by first | assumption | omega | (simp; omega) | (simp; done)) (by first | assumption | omega | (simp; omega) | (simp; done)) (by first | assumption | omega | (simp; omega) | (simp; done)) (by first | assumption | omega | (simp; omega) | (simp; done)) | exact settle_c _ _ _ _ _ _ _ _ _ (by first | assumption | omega | (simp; omega) | (simp; done)) (by first | assumption | omega | (simp; omega) | (simp; done)) (by first | assumption | omega | (simp; omega) | (simp; done)) (by first | assumption | omega | (simp; omega) | (simp; done))))
 | (clear hK K)
    | fail)
  have hLS2 := (hLS.app [(⟨1, false, 32, 1, [.flt .f32 (some w)]⟩ : AO)]).putOld (k := 0) hg3 1 (w0 ++ [w])
  rw [hP0] at hLS2
  simp only [List.map_append, List.map_cons, List.map_nil, List.length_append, List.length_cons, List.length_nil, Nat.zero_add, Fw] at hLS2
  have hwP : wR (P.set 0 (i1, 1, w0 ++ [w])) = putL ls w := by
    show List.map _ (List.set _ _ _) = _
    rw [List.map_set]
    show (wR P).set 0 (w0 ++ [w]) = _
    rw [hPw, ← hw0]; rfl
  have hpl : (putL ls w).length = ls.length := List.length_set
  have hpt : totW (putL ls w) = totW ls + 1 := by
    have := totW_set hl1 (w0 ++ [w])
    rw [hw0, List.length_append] at this
    unfold putL
    rw [hw0]
    simp only [List.length_cons, List.length_nil] at this
    omega
  have hset := settle_c _ _ A 0 q (plN (putL ls w)) s _ hLS2 ⟨by omega, by omega⟩ ⟨hs0, hs1⟩ (by rw [hwP, List.length_set, hPl, hpt]; omega) (by rw [hwP, List.length_set, hPl]; unfold plN; omega)
  rw [List.length_set, hPl, hwP, hR] at hset
  refine hset.mono ?_
  intro r' X' hQ
  unfold stQ at hQ
  cases ho : stOk (2 * q : Nat) R
  · have ho' : levB (2 * q : Nat) R.2 (R.1.map fun ws => ws.map some) = false := ho
    rw [ho'] at hQ
    simp only [Bool.false_eq_true, if_false] at hQ
    obtain ⟨rfl, K0, rfl⟩ := hQ
    simp only [List.append_assoc, List.cons_append, List.nil_append]
    repeat' (first
 | ((with_reducible refine hK _ _ ?_); clear hK K)
 | ((first | (with_reducible show AOp _ _ _ _ _ _ _)); simp (disch := first | ((with_reducible show liveO _ _ _ = true); first | assumption | (exact lvB) | (exact lvA) | (exact lvBA _) | (exact lvAA _) | (exact bSl _ _) | (exact aSl _ _) | (exact liveO_setS (by assumption)) | (exact PtL.live (by assumption)) | (exact PtL.liveA (by assumption) _) | (simp only [go_sem]; done)) | omega | assumption | rfl | (simp only [go_sem]; first | done | omega)) only [go_sem, reduceIte, reduceCtorEq, Nat.reduceAdd, Nat.reduceMul, Nat.reduceSub, Nat.reduceLeDiff, Nat.lt_irrefl, Nat.reduceLT, Nat.reduceEqDiff, Nat.reduceBEq, Int.reduceLE, Int.reduceLT, Int.reduceToNat, w64, eq_self])
 | (with_reducible refine AW_seq (fun K hK => ?_))
 | (with_reducible refine AW_region tyOk ?_)
 | (with_reducible refine AOps_cons (fun K hK => ?_))
 | ((with_reducible refine AOps_nil ?_); try simp only [thenA, blockA, if_true, if_false, reduceIte, Nat.reduceEqDiff, reduceCtorEq])
 | (with_reducible refine AW_block ?_)
 | ((first | (with_reducible refine AW_ret ?_) | (with_reducible refine AW_skip ?_) | (with_reducible refine AW_exit ?_)); try simp only [thenA, blockA, if_true, if_false, reduceIte, Nat.reduceEqDiff, reduceCtorEq])
 | ((with_reducible show AW _ _ (.cond _ _ _) _ _ _); refine AW_cond rfl (fun hg => ?_) (fun hg => ?_) <;> first | (exfalso; simp only [reduceCtorEq] at hg; done) | ((try simp only [Bool.not_eq_true', Bool.not_eq_false', decide_eq_true_eq, decide_eq_false_iff_not] at hg); try (exfalso; omega)))
 | ((with_reducible show _ ∧ _); refine And.intro (fun hg => ?_) (fun hg => ?_) <;> (try simp only [Bool.not_eq_true', Bool.not_eq_false'] at hg) <;> simp only [hg] <;> (try simp only [decide_eq_true_eq, decide_eq_false_iff_not] at hg) <;> (try (exfalso; omega)))
 | ((with_reducible apply FunH_intro); (first | exact iValidLevels_c _ _ _ _ _ _ (by first | assumption | exact RdL.app (by assumption) _ | exact RdL_hj rfl (by simp) | exact RdL_h0 rfl (by simp) | exact RdL_nil | exact RdL_emp) (by first | assumption | exact RdLL.app (by assumption) _) (by first | assumption | omega | (simp; omega) | (simp; done)) | exact IsFinite_c _ _ | exact copyLevels_c _ _ _ _ _ _ (by first | assumption | exact RdL.app (by assumption) _ | exact RdL_hj rfl (by simp) | exact RdL_h0 rfl (by simp) | exact RdL_nil | exact RdL_emp) (by first | assumption | exact RdLL.app (by assumption) _) (by first | assumption | omega | (simp; omega) | (simp; done)) | exact settle_c _ _ _ _ _ _ _ _ _ (by first | assumption | omega | (simp; omega) | (simp; done)) (by first | assumption | omega | (simp; omega) | (simp; done)) (by first | assumption | omega | (simp; omega) | (simp; done)) (by first | assumption | omega | (simp; omega) | (simp; done)) | exact settle_c _ _ _ _ _ _ _ _ _ (by first | assumption | omega | (simp; omega) | (simp; done)) (by first | assumption | omega | (simp; omega) | (simp; done)) (by first | assumption | omega | (simp; omega) | (simp; done)) (by first | assumption | omega | (simp; omega) | (simp; done))))
 | (clear hK K)
      | fail)
    refine EndA_rows [none] hcl (by first | exact Or.inr rfl | exact Or.inl rfl) (by simp only [Try.results7, resA, aresL, go_sem] <;> rfl) (by simp) (rows := [⟨0, false, 25, 1, []⟩]) (r := .tup [.agg [.int .i64 0, .int .i64 0, .sl Hb.length 0 0 0 none], .bool false]) ?_ ?_ ?_
    · exact ⟨RowOk.none, trivial⟩
    · exact TdT.tup ⟨TdL.agg ⟨TdB.old _ trivial rfl, TdB.old _ trivial rfl, TdB.virt 0 rfl, trivial⟩, TdL.cell (TdB.old _ trivial rfl), trivial⟩
    · rw [ho]; exact ⟨rfl, rfl⟩
  · have ho' : levB (2 * q : Nat) R.2 (R.1.map fun ws => ws.map some) = true := ho
    rw [ho'] at hQ
    simp only [if_true, reduceIte] at hQ
    obtain ⟨v', P', rfl, hw', hL'⟩ := hQ
    obtain ⟨K0, rfl⟩ := hL'.pre
    have hL3 := hL'.weak.setN (b := Hb.length + 1) ⟨0, false, 29, 3, [.int .i64 (2 * q : Nat), .int .i64 R.2, .sl A v' 0 P'.length none]⟩ (by omega) (by omega) (fun k hk => by have := (hL'.row k hk).2.1; rw [List.length_append] at this; simp only [List.length_cons, List.length_nil] at this; omega)
    simp only [List.append_assoc, List.cons_append, List.nil_append, hp_setj, List.set_cons_succ, List.set_cons_zero] at hL3 ⊢
    repeat' (first
 | ((with_reducible refine hK _ _ ?_); clear hK K)
 | ((first | (with_reducible show AOp _ _ _ _ _ _ _)); simp (disch := first | ((with_reducible show liveO _ _ _ = true); first | assumption | (exact lvB) | (exact lvA) | (exact lvBA _) | (exact lvAA _) | (exact bSl _ _) | (exact aSl _ _) | (exact liveO_setS (by assumption)) | (exact PtL.live (by assumption)) | (exact PtL.liveA (by assumption) _) | (simp only [go_sem]; done)) | omega | assumption | rfl | (simp only [go_sem]; first | done | omega)) only [go_sem, reduceIte, reduceCtorEq, Nat.reduceAdd, Nat.reduceMul, Nat.reduceSub, Nat.reduceLeDiff, Nat.lt_irrefl, Nat.reduceLT, Nat.reduceEqDiff, Nat.reduceBEq, Int.reduceLE, Int.reduceLT, Int.reduceToNat, w64, eq_self])
 | (with_reducible refine AW_seq (fun K hK => ?_))
 | (with_reducible refine AW_region tyOk ?_)
 | (with_reducible refine AOps_cons (fun K hK => ?_))
 | ((with_reducible refine AOps_nil ?_); try simp only [thenA, blockA, if_true, if_false, reduceIte, Nat.reduceEqDiff, reduceCtorEq])
 | (with_reducible refine AW_block ?_)
 | ((first | (with_reducible refine AW_ret ?_) | (with_reducible refine AW_skip ?_) | (with_reducible refine AW_exit ?_)); try simp only [thenA, blockA, if_true, if_false, reduceIte, Nat.reduceEqDiff, reduceCtorEq])
 | ((with_reducible show AW _ _ (.cond _ _ _) _ _ _); refine AW_cond rfl (fun hg => ?_) (fun hg => ?_) <;> first | (exfalso; simp only [reduceCtorEq] at hg; done) | ((try simp only [Bool.not_eq_true', Bool.not_eq_false', decide_eq_true_eq, decide_eq_false_iff_not] at hg); try (exfalso; omega)))
 | ((with_reducible show _ ∧ _); refine And.intro (fun hg => ?_) (fun hg => ?_) <;> (try simp only [Bool.not_eq_true', Bool.not_eq_false'] at hg) <;> simp only [hg] <;> (try simp only [decide_eq_true_eq, decide_eq_false_iff_not] at hg) <;> (try (exfalso; omega)))
 | ((with_reducible apply FunH_intro); (first | exact iValidLevels_c _ _ _ _ _ _ (by first | assumption | exact RdL.app (by assumption) _ | exact RdL_hj rfl (by simp) | exact RdL_h0 rfl (by simp) | exact RdL_nil | exact RdL_emp) (by first | assumption | exact RdLL.app (by assumption) _) (by first | assumption | omega | (simp; omega) | (simp; done)) | exact IsFinite_c _ _ | exact copyLevels_c _ _ _ _ _ _ (by first | assumption | exact RdL.app (by assumption) _ | exact RdL_hj rfl (by simp) | exact RdL_h0 rfl (by simp) | exact RdL_nil | exact RdL_emp) (by first | assumption | exact RdLL.app (by assumption) _) (by first | assumption | omega | (simp; omega) | (simp; done)) | exact settle_c _ _ _ _ _ _ _ _ _ (by first | assumption | omega | (simp; omega) | (simp; done)) (by first | assumption | omega | (simp; omega) | (simp; done)) (by first | assumption | omega | (simp; omega) | (simp; done)) (by first | assumption | omega | (simp; omega) | (simp; done)) | exact settle_c _ _ _ _ _ _ _ _ _ (by first | assumption | omega | (simp; omega) | (simp; done)) (by first | assumption | omega | (simp; omega) | (simp; done)) (by first | assumption | omega | (simp; omega) | (simp; done)) (by first | assumption | omega | (simp; omega) | (simp; done))))
 | (clear hK K)
      | fail)
    obtain ⟨K1, hK1, c1, c2, c3⟩ := hL3.cut
    obtain rfl := (List.append_cancel_left hK1).symm
    refine EndA_rows (jsL Hb.length A P') hcl (by first | exact Or.inr rfl | exact Or.inl rfl) (by simp only [Try.results7, resA, aresL, go_sem] <;> rfl) c1 c2 ?_ (r := .tup [.agg [.int .i64 (2 * q : Nat), .int .i64 R.2, .sl Hb.length 0 0 P'.length none], .bool true]) ?_
    · exact TdT.tup ⟨TdL.agg ⟨TdB.old _ trivial rfl, TdB.old _ trivial rfl, c3, trivial⟩, TdL.cell (TdB.old _ trivial rfl), trivial⟩
    · have hx : sxs P' = R.1.map fun ws => ws.map some := by unfold sxs; rw [hw']
      have hxl := sxs_len P'
      rw [ho]
      unfold plQ stX
      simp only [if_true, reduceIte]
      rw [← hx, hxl]
      exact ⟨rfl, rfl⟩
end Go.Proofs.Yteejnmgjjefbiaa
