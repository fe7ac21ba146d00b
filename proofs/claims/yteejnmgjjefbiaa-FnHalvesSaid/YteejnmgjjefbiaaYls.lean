/- MergeLevels in the abstract machine: the program's side. Written by aw/mergegen.py. -/
import Derived.Test.YteejnmgjjefbiaaZy
import Derived.Test.YteejnmgjjefbiaaYcs
import Derived.Test.YteejnmgjjefbiaaNu
namespace Go.Proofs.Yteejnmgjjefbiaa
open Go.RowKit
set_option linter.unusedSimpArgs false
set_option linter.unusedVariables false
set_option maxRecDepth 100000

set_option maxHeartbeats 16000000 in
theorem iMergeLevels_c (r s r2 s2 : Int) (v v2 : LV) (L L2 : List LV) (xss yss : List (List (Option Nat))) (Hb : Hp) (h : RdL Hb v L) (hL : RdLL Hb L xss) (hn : totL xss ≤ 1048576) (h' : RdL Hb v2 L2) (hL' : RdLL Hb L2 yss) (hn' : totL yss ≤ 1048576) (h20 : r ≤ 20) :
    FunH Try.prog 10 [.agg [.int .i64 r, .int .i64 s, v], .agg [.int .i64 r2, .int .i64 s2, v2]] Hb (plQ Hb r (mlOk r s r2 s2 xss yss) (plS r s (mgS (unw xss) (unw yss) yss.length))) := by
  have hv := fun K => iValidLevels_c r s v L xss (Hb ++ K) (h.app K) (hL.app K) hn
  have hv' := fun K => iValidLevels_c r2 s2 v2 L2 yss (Hb ++ K) (h'.app K) (hL'.app K) hn'
  cases e1 : levB r s xss
  · have e : mlOk r s r2 s2 xss yss = false := by unfold mlOk; rw [e1]; rfl
    rw [e]
    unfold plQ stX
    simp only [Bool.false_eq_true, if_false, reduceIte]
    rw [e1] at hv
    (refine FunH_body tyOk Try.func10 rfl (by kernel_rfl) Try.ntmps10 (fun hcl hbd => ?_); simp only [List.length_cons, List.length_nil, Nat.reduceAdd, Nat.reduceSub, List.replicate, List.cons_append, List.nil_append])
    repeat' (first
 | ((with_reducible refine hK _ _ ?_); clear hK K)
 | ((first | (with_reducible show AOp _ _ _ _ _ _ _)); simp (disch := first | ((with_reducible show liveO _ _ _ = true); first | assumption | (exact hS.lvB) | (exact hS.lvBA _) | (exact hS.lvA) | (exact hS.lvAA _) | (exact hS.bSl _ _) | (exact bSl _) | (exact aSl _) | (exact liveO_setS (by assumption)) | (exact PtL.live (by assumption)) | (exact PtL.liveA (by assumption) _) | (simp only [go_sem]; done)) | omega | assumption | rfl | (simp only [go_sem]; first | done | omega)) only [go_sem, reduceIte, reduceCtorEq, Nat.reduceAdd, Nat.reduceMul, Nat.reduceSub, Nat.reduceLeDiff, Nat.lt_irrefl, Nat.reduceLT, Nat.reduceEqDiff, Nat.reduceBEq, Int.reduceLE, Int.reduceLT, Int.reduceToNat, w64, eq_self, h.isCell, h'.isCell])
 | (with_reducible refine AW_seq (fun K hK => ?_))
 | (with_reducible refine AW_region tyOk ?_)
 | (with_reducible refine AOps_cons (fun K hK => ?_))
 | ((with_reducible refine AOps_nil ?_); try simp only [thenA, blockA, if_true, if_false, reduceIte, Nat.reduceEqDiff, reduceCtorEq])
 | (with_reducible refine AW_block ?_)
 | ((first | (with_reducible refine AW_ret ?_) | (with_reducible refine AW_skip ?_) | (with_reducible refine AW_exit ?_)); try simp only [thenA, blockA, if_true, if_false, reduceIte, Nat.reduceEqDiff, reduceCtorEq])
 | ((with_reducible show AW _ _ (.cond _ _ _) _ _ _); refine AW_cond rfl (fun hg => ?_) (fun hg => ?_) <;> first | (exfalso; simp only [reduceCtorEq] at hg; done) | ((try simp only [Bool.not_eq_true', Bool.not_eq_false', decide_eq_true_eq, decide_eq_false_iff_not] at hg); try (exfalso; omega)))
 | ((with_reducible show _ ∧ _); refine And.intro (fun hg => ?_) (fun hg => ?_) <;> (try simp only [Bool.not_eq_true', Bool.not_eq_false'] at hg) <;> simp only [hg] <;> (try simp only [decide_eq_true_eq, decide_eq_false_iff_not] at hg) <;> (try (exfalso; omega)))
 | ((with_reducible apply FunH_intro); (first | exact hv _))
 | (clear hK K)
      | fail)
    refine EndA_rows [none] hcl (by first | exact Or.inr rfl | exact Or.inl rfl) (by simp only [Try.results10, resA, aresL, go_sem] <;> rfl) (by simp) ?_ ?_ ⟨rfl, rfl⟩
    · exact ⟨RowOk.none, trivial⟩
    · exact TdT.tup ⟨TdL.agg ⟨TdB.old _ trivial rfl, TdB.old _ trivial rfl, TdB.virt 0 rfl, trivial⟩, TdL.cell (TdB.old _ trivial rfl), trivial⟩
  rw [e1] at hv
  cases e2 : levB r2 s2 yss
  · have e : mlOk r s r2 s2 xss yss = false := by unfold mlOk; rw [e1, e2]; rfl
    rw [e]
    unfold plQ stX
    simp only [Bool.false_eq_true, if_false, reduceIte]
    rw [e2] at hv'
    (refine FunH_body tyOk Try.func10 rfl (by kernel_rfl) Try.ntmps10 (fun hcl hbd => ?_); simp only [List.length_cons, List.length_nil, Nat.reduceAdd, Nat.reduceSub, List.replicate, List.cons_append, List.nil_append])
    repeat' (first
 | ((with_reducible refine hK _ _ ?_); clear hK K)
 | ((first | (with_reducible show AOp _ _ _ _ _ _ _)); simp (disch := first | ((with_reducible show liveO _ _ _ = true); first | assumption | (exact hS.lvB) | (exact hS.lvBA _) | (exact hS.lvA) | (exact hS.lvAA _) | (exact hS.bSl _ _) | (exact bSl _) | (exact aSl _) | (exact liveO_setS (by assumption)) | (exact PtL.live (by assumption)) | (exact PtL.liveA (by assumption) _) | (simp only [go_sem]; done)) | omega | assumption | rfl | (simp only [go_sem]; first | done | omega)) only [go_sem, reduceIte, reduceCtorEq, Nat.reduceAdd, Nat.reduceMul, Nat.reduceSub, Nat.reduceLeDiff, Nat.lt_irrefl, Nat.reduceLT, Nat.reduceEqDiff, Nat.reduceBEq, Int.reduceLE, Int.reduceLT, Int.reduceToNat, w64, eq_self, h.isCell, h'.isCell])
 | (with_reducible refine AW_seq (fun K hK => ?_))
 | (with_reducible refine AW_region tyOk ?_)
 | (with_reducible refine AOps_cons (fun K hK => ?_))
 | ((with_reducible refine AOps_nil ?_); try simp only [thenA, blockA, if_true, if_false, reduceIte, Nat.reduceEqDiff, reduceCtorEq])
 | (with_reducible refine AW_block ?_)
 | ((first | (with_reducible refine AW_ret ?_) | (with_reducible refine AW_skip ?_) | (with_reducible refine AW_exit ?_)); try simp only [thenA, blockA, if_true, if_false, reduceIte, Nat.reduceEqDiff, reduceCtorEq])
 | ((with_reducible show AW _ _ (.cond _ _ _) _ _ _); refine AW_cond rfl (fun hg => ?_) (fun hg => ?_) <;> first | (exfalso; simp only [reduceCtorEq] at hg; done) | ((try simp only [Bool.not_eq_true', Bool.not_eq_false', decide_eq_true_eq, decide_eq_false_iff_not] at hg); try (exfalso; omega)))
 | ((with_reducible show _ ∧ _); refine And.intro (fun hg => ?_) (fun hg => ?_) <;> (try simp only [Bool.not_eq_true', Bool.not_eq_false'] at hg) <;> simp only [hg] <;> (try simp only [decide_eq_true_eq, decide_eq_false_iff_not] at hg) <;> (try (exfalso; omega)))
 | ((with_reducible apply FunH_intro); (first | exact hv _ | exact hv' _))
 | (clear hK K)
      | fail)
    refine EndA_rows [none] hcl (by first | exact Or.inr rfl | exact Or.inl rfl) (by simp only [Try.results10, resA, aresL, go_sem] <;> rfl) (by simp) ?_ ?_ ⟨rfl, rfl⟩
    · exact ⟨RowOk.none, trivial⟩
    · exact TdT.tup ⟨TdL.agg ⟨TdB.old _ trivial rfl, TdB.old _ trivial rfl, TdB.virt 0 rfl, trivial⟩, TdL.cell (TdB.old _ trivial rfl), trivial⟩
  rw [e2] at hv'
  by_cases er : r = r2
  case neg =>
    have e : mlOk r s r2 s2 xss yss = false := by
      have e3 : (r == r2) = false := beq_eq_false_iff_ne.2 er
      unfold mlOk; rw [e1, e2, e3]; rfl
    have e4 : (r != r2) = true := by simpa using er
    rw [e]
    unfold plQ stX
    simp only [Bool.false_eq_true, if_false, reduceIte]
    (refine FunH_body tyOk Try.func10 rfl (by kernel_rfl) Try.ntmps10 (fun hcl hbd => ?_); simp only [List.length_cons, List.length_nil, Nat.reduceAdd, Nat.reduceSub, List.replicate, List.cons_append, List.nil_append])
    repeat' (first
 | ((with_reducible refine hK _ _ ?_); clear hK K)
 | ((first | (with_reducible show AOp _ _ _ _ _ _ _)); simp (disch := first | ((with_reducible show liveO _ _ _ = true); first | assumption | (exact hS.lvB) | (exact hS.lvBA _) | (exact hS.lvA) | (exact hS.lvAA _) | (exact hS.bSl _ _) | (exact bSl _) | (exact aSl _) | (exact liveO_setS (by assumption)) | (exact PtL.live (by assumption)) | (exact PtL.liveA (by assumption) _) | (simp only [go_sem]; done)) | omega | assumption | rfl | (simp only [go_sem]; first | done | omega)) only [go_sem, reduceIte, reduceCtorEq, Nat.reduceAdd, Nat.reduceMul, Nat.reduceSub, Nat.reduceLeDiff, Nat.lt_irrefl, Nat.reduceLT, Nat.reduceEqDiff, Nat.reduceBEq, Int.reduceLE, Int.reduceLT, Int.reduceToNat, w64, eq_self, h.isCell, h'.isCell, e4])
 | (with_reducible refine AW_seq (fun K hK => ?_))
 | (with_reducible refine AW_region tyOk ?_)
 | (with_reducible refine AOps_cons (fun K hK => ?_))
 | ((with_reducible refine AOps_nil ?_); try simp only [thenA, blockA, if_true, if_false, reduceIte, Nat.reduceEqDiff, reduceCtorEq])
 | (with_reducible refine AW_block ?_)
 | ((first | (with_reducible refine AW_ret ?_) | (with_reducible refine AW_skip ?_) | (with_reducible refine AW_exit ?_)); try simp only [thenA, blockA, if_true, if_false, reduceIte, Nat.reduceEqDiff, reduceCtorEq])
 | ((with_reducible show AW _ _ (.cond _ _ _) _ _ _); refine AW_cond rfl (fun hg => ?_) (fun hg => ?_) <;> first | (exfalso; simp only [reduceCtorEq] at hg; done) | ((try simp only [Bool.not_eq_true', Bool.not_eq_false', decide_eq_true_eq, decide_eq_false_iff_not] at hg); try (exfalso; omega)))
 | ((with_reducible show _ ∧ _); refine And.intro (fun hg => ?_) (fun hg => ?_) <;> (try simp only [Bool.not_eq_true', Bool.not_eq_false'] at hg) <;> simp only [hg] <;> (try simp only [decide_eq_true_eq, decide_eq_false_iff_not] at hg) <;> (try (exfalso; omega)))
 | ((with_reducible apply FunH_intro); (first | exact hv _ | exact hv' _))
 | (clear hK K)
      | fail)
    refine EndA_rows [none] hcl (by first | exact Or.inr rfl | exact Or.inl rfl) (by simp only [Try.results10, resA, aresL, go_sem] <;> rfl) (by simp) ?_ ?_ ⟨rfl, rfl⟩
    · exact ⟨RowOk.none, trivial⟩
    · exact TdT.tup ⟨TdL.agg ⟨TdB.old _ trivial rfl, TdB.old _ trivial rfl, TdB.virt 0 rfl, trivial⟩, TdL.cell (TdB.old _ trivial rfl), trivial⟩
  subst er
  have e4 : (r != r) = false := by simp
  have hfin : ∀ (r s : Int) (xss : List (List (Option Nat))), levB r s xss = true → ∃ ls : List (List Nat), xss = ls.map fun ws => ws.map some := fun r s xss e1 => words_L (by
    intro xs hx
    unfold levB at e1
    simp only [Bool.and_eq_true] at e1
    have := List.all_eq_true.1 e1.2 xs hx
    unfold levP at this
    simp only [Bool.and_eq_true] at this
    exact this.2)
  obtain ⟨la, rfl⟩ := hfin _ _ _ e1
  obtain ⟨lb, rfl⟩ := hfin _ _ _ e2
  clear hfin
  have eo : mlOk r s r s2 (la.map fun ws => ws.map some) (lb.map fun ws => ws.map some) = stOk r (plS r s (mgS la lb lb.length)) := by
    unfold mlOk; rw [e1, e2, unw_map, unw_map, List.length_map, beq_self_eq_true]; rfl
  rw [eo, unw_map, unw_map, List.length_map]
  have htot : ∀ (s : Int) (ls : List (List Nat)), levB r s (ls.map fun ws => ws.map some) = true → 2 ≤ r ∧ r ≤ 64 ∧ r.tmod 2 = 0 ∧ 0 ≤ s ∧ s ≤ 4294967295 ∧ 1 ≤ ls.length ∧ ls.length ≤ 16 ∧ totW ls ≤ 64 * ls.length := fun s ls e1 => by
    have e3 := e1
    unfold levB at e3
    simp only [Bool.and_eq_true, decide_eq_true_eq, beq_iff_eq, inB, List.length_map] at e3
    obtain ⟨⟨⟨⟨⟨⟨hr2, hr64⟩, hrm⟩, hs0, hs1⟩, hl1⟩, hl16⟩, -⟩ := e3
    refine ⟨hr2, hr64, hrm, hs0, hs1, hl1, hl16, totW_le fun ws hws => ?_⟩
    unfold levB at e1
    simp only [Bool.and_eq_true] at e1
    have := List.all_eq_true.1 e1.2 _ (List.mem_map_of_mem hws)
    unfold levP at this
    simp only [Bool.and_eq_true, decide_eq_true_eq, List.length_map] at this
    omega
  obtain ⟨hr2, hr64, hrm, hs0, hs1, hl1, hl16, htw⟩ := htot s la e1
  obtain ⟨-, -, -, -, -, hl1', hl16', htw'⟩ := htot s2 lb e2
  clear htot
  obtain ⟨q, rfl⟩ : ∃ q : Nat, r = ((2 * q : Nat) : Int) := ⟨(r / 2).toNat, by
    have h1 := Int.tmod_eq_emod_of_nonneg (a := r) (b := 2) (by omega)
    omega⟩
  have hq2 : (((2 * q : Nat) : Int) / 2).toNat = q := by omega
  obtain ⟨M, hM⟩ : ∃ M, mgS la lb lb.length = M := ⟨_, rfl⟩
  have hMl : M.length ≤ 16 := by rw [← hM, mgS_len']; omega
  have hMt : totW M ≤ 2048 := by rw [← hM, mgS_tot la lb _ (Nat.le_refl _), List.take_length]; omega
  have hR : stl q (plN M) 0 M s = plS (2 * q : Nat) s M := by unfold plS; rw [hq2]
  rw [hM]
  obtain ⟨R, hRe⟩ : ∃ R, plS (2 * q : Nat) s M = R := ⟨_, rfl⟩
  rw [hM, hRe] at eo
  rw [hRe] at hR ⊢
  have hrl : (List.map rowF (List.map (fun ws : List Nat => ws.map some) la)).length = la.length := by rw [List.length_map, List.length_map]
  have hll' := h'.lenL hL'
  rw [List.length_map] at hll'
  have hlen2 := hL'.length
  rw [List.length_map] at hlen2
  have hcp := fun K => copyLevels_c (2 * q : Nat) s v L _ (Hb ++ K) (h.app K) (hL.app K) hn
  simp only [List.length_map, List.length_append] at hcp
  (refine FunH_body tyOk Try.func10 rfl (by kernel_rfl) Try.ntmps10 (fun hcl hbd => ?_); simp only [List.length_cons, List.length_nil, Nat.reduceAdd, Nat.reduceSub, List.replicate, List.cons_append, List.nil_append])
  repeat' (first
 | ((with_reducible refine hK _ _ ?_); clear hK K)
 | ((first | (with_reducible show AOp _ _ _ _ _ _ _)); simp (disch := first | ((with_reducible show liveO _ _ _ = true); first | assumption | (exact hS.lvB) | (exact hS.lvBA _) | (exact hS.lvA) | (exact hS.lvAA _) | (exact hS.bSl _ _) | (exact bSl _) | (exact aSl _) | (exact liveO_setS (by assumption)) | (exact PtL.live (by assumption)) | (exact PtL.liveA (by assumption) _) | (simp only [go_sem]; done)) | omega | assumption | rfl | (simp only [go_sem]; first | done | omega)) only [go_sem, reduceIte, reduceCtorEq, Nat.reduceAdd, Nat.reduceMul, Nat.reduceSub, Nat.reduceLeDiff, Nat.lt_irrefl, Nat.reduceLT, Nat.reduceEqDiff, Nat.reduceBEq, Int.reduceLE, Int.reduceLT, Int.reduceToNat, w64, eq_self, h.isCell, h'.isCell, e4, hll', hput_l0 hrl])
 | (with_reducible refine AW_seq (fun K hK => ?_))
 | (with_reducible refine AW_region tyOk ?_)
 | (with_reducible refine AOps_cons (fun K hK => ?_))
 | ((with_reducible refine AOps_nil ?_); try simp only [thenA, blockA, if_true, if_false, reduceIte, Nat.reduceEqDiff, reduceCtorEq])
 | (with_reducible refine AW_block ?_)
 | ((first | (with_reducible refine AW_ret ?_) | (with_reducible refine AW_skip ?_) | (with_reducible refine AW_exit ?_)); try simp only [thenA, blockA, if_true, if_false, reduceIte, Nat.reduceEqDiff, reduceCtorEq])
 | ((with_reducible show AW _ _ (.cond _ _ _) _ _ _); refine AW_cond rfl (fun hg => ?_) (fun hg => ?_) <;> first | (exfalso; simp only [reduceCtorEq] at hg; done) | ((try simp only [Bool.not_eq_true', Bool.not_eq_false', decide_eq_true_eq, decide_eq_false_iff_not] at hg); try (exfalso; omega)))
 | ((with_reducible show _ ∧ _); refine And.intro (fun hg => ?_) (fun hg => ?_) <;> (try simp only [Bool.not_eq_true', Bool.not_eq_false'] at hg) <;> simp only [hg] <;> (try simp only [decide_eq_true_eq, decide_eq_false_iff_not] at hg) <;> (try (exfalso; omega)))
 | ((with_reducible apply FunH_intro); (first | exact hv _ | exact hv' _ | exact hcp _))
 | (clear hK K)
    | fail)
  have hLS := LS.copy (H := Hb ++ [(⟨0, false, 29, 3, [.int .i64 (2 * q : Nat), .int .i64 s, v]⟩ : AO), ⟨0, false, 29, 3, [.int .i64 (2 * q : Nat), .int .i64 s2, v2]⟩, ⟨0, false, 29, 3, [.int .i64 0, .int .i64 0, .nils]⟩]) (a := 2) (ls := la) (G := bxL (2 * q : Nat) s (Hb.length + 5) 0 la.length :: bxL (2 * q : Nat) s (Hb.length + 5) 0 la.length :: ⟨0, false, 25, 1, rowsL (Hb.length + 6) (la.map fun ws => ws.map some)⟩ :: ((la.map fun ws => ws.map some).map rowF ++ [bxL (2 * q : Nat) s (Hb.length + 5) 0 la.length])) (by simp) (fun k hk => by
    rw [show 2 + 1 + k = k + 1 + 1 + 1 by omega]
    simp only [List.getElem?_cons_succ]
    rw [List.getElem?_append_left (by rw [hrl]; exact hk), List.getElem?_map, List.getElem?_map, ix_get? _ _ hk]; rfl)
  simp only [List.length_append, List.length_cons, List.length_nil, Nat.zero_add, Nat.add_assoc, Nat.reduceAdd] at hLS
  have hLS0 := hLS.pre
  rw [List.append_assoc] at hLS hLS0
  simp only [List.cons_append, List.nil_append] at hLS hLS0
  obtain ⟨Z, hZ⟩ : ∃ Z, Hb ++ ((⟨0, false, 29, 3, [.int .i64 (2 * q : Nat), .int .i64 s, v]⟩ : AO) :: ⟨0, false, 29, 3, [.int .i64 (2 * q : Nat), .int .i64 s2, v2]⟩ :: ⟨0, false, 29, 3, [.int .i64 0, .int .i64 0, .nils]⟩ :: bxL (2 * q : Nat) s (Hb.length + 5) 0 la.length :: bxL (2 * q : Nat) s (Hb.length + 5) 0 la.length :: ⟨0, false, 25, 1, rowsL (Hb.length + 6) (la.map fun ws => ws.map some)⟩ :: ((la.map fun ws => ws.map some).map rowF ++ [bxL (2 * q : Nat) s (Hb.length + 5) 0 la.length])) = Z := ⟨_, rfl⟩
  have hb0 : Z[Hb.length + (la.length + 6)]? = some (bxL (2 * q : Nat) s (Hb.length + 5) 0 la.length) := by
    rw [← hZ, hp_getj]
    simp only [List.getElem?_cons_succ]
    rw [List.getElem?_append_right (by rw [hrl]; exact Nat.le_refl _), hrl, Nat.sub_self]; rfl
  have hPc := cpR_len (Hb.length + 6) la
  have hPw := wR_cpR (Hb.length + 6) la
  have hS : SM (Hb ++ [(⟨0, false, 29, 3, [.int .i64 (2 * q : Nat), .int .i64 s, v]⟩ : AO), ⟨0, false, 29, 3, [.int .i64 (2 * q : Nat), .int .i64 s2, v2]⟩, ⟨0, false, 29, 3, [.int .i64 0, .int .i64 0, .nils]⟩]) Z (Hb.length + (la.length + 6)) (2 * q : Nat) s (Hb.length + 5) 0 (cpR (Hb.length + 6) la) := by
    refine ⟨by rw [← hZ]; exact hLS, by rw [hPc]; exact hb0, by simp only [List.length_append, List.length_cons, List.length_nil]; omega, by omega, fun k hk => ?_⟩
    rw [hPc] at hk
    rw [cpR_ix _ _ _ hk]; simp only; omega
  simp only [bxL, rsL] at hZ
  rw [hZ]
  clear hZ hLS hLS0 hb0
  obtain ⟨P, hP⟩ : ∃ P, cpR (Hb.length + 6) la = P := ⟨_, rfl⟩
  obtain ⟨A, hA⟩ : ∃ A, Hb.length + 5 = A := ⟨_, rfl⟩
  obtain ⟨B, hB⟩ : ∃ B, Hb.length + (la.length + 6) = B := ⟨_, rfl⟩
  rw [hP] at hS hPw
  simp only [hA, hB] at hS ⊢
  refine AW_loopV [7, 8, 30, 31, 32, 33, 34, 35, 36, 37, 38, 39, 40, 41, 42, 43, 44, 45, 46, 47, 48, 49, 50, 51, 52, 53, 54, 55, 56] (fun p : Nat × Hp × Nat × List (Nat × Nat × List Nat) => [(30, .int .i64 (p.1 : Nat))]) (fun p => p.2.1) (fun p => p.1 ≤ lb.length ∧ SM (Hb ++ [(⟨0, false, 29, 3, [.int .i64 (2 * q : Nat), .int .i64 s, v]⟩ : AO), ⟨0, false, 29, 3, [.int .i64 (2 * q : Nat), .int .i64 s2, v2]⟩, ⟨0, false, 29, 3, [.int .i64 0, .int .i64 0, .nils]⟩]) p.2.1 B (2 * q : Nat) s A p.2.2.1 p.2.2.2 ∧ wR p.2.2.2 = mgS la lb p.1) (fun p => lb.length - p.1) (0, Z, 0, P) ⟨Nat.zero_le _, hS, hPw⟩ ?_ rfl ?_
  · simp only [junkAll, setAll, List.foldl_cons, List.foldl_nil, List.set_cons_succ, List.set_cons_zero, JL, true_or, or_true, and_true, true_and, reduceCtorEq, false_or, or_false, LV.int.injEq, LV.bool.injEq, LV.flt.injEq, LV.sl.injEq, LV.ptr.injEq, eq_self, Int.natCast_add, Int.natCast_one, Int.natCast_zero, Int.ofNat_zero]
  clear hS hPw
  intro ⟨k, Z, v1, P⟩ ⟨hk, hS, hW⟩ K hK
  simp only at hk hS hW
  have hPl : P.length = max la.length k := by rw [← wR_len P, hW, mgS_len']
  have hWt : totW (wR P) ≤ 2048 := by
    rw [hW, mgS_tot la lb k hk]
    have h1 := congrArg totW (List.take_append_drop k lb)
    rw [totW_app] at h1
    omega
  obtain ⟨KZ, hKZ⟩ := hS.ls.pre
  have hz : RdL Z v2 L2 := by rw [hKZ, List.append_assoc]; exact h'.app _
  have hzL : RdLL Z L2 (lb.map fun ws => ws.map some) := by rw [hKZ, List.append_assoc]; exact hL'.app _
  simp only [junkAll, setAll, List.foldl_cons, List.foldl_nil, List.set_cons_succ, List.set_cons_zero]
  by_cases hkl : k < lb.length
  · have hr := hzL.at (k := k) (by rw [List.length_map]; exact hkl)
    rw [ix_mapA _ hkl, Fw_map] at hr
    obtain ⟨ws, hws⟩ : ∃ ws, ix lb k = ws := ⟨_, rfl⟩
    rw [hws] at hr
    have hwl : ws.length ≤ 2048 := by
      have := totW_at hkl
      rw [hws] at this; omega
    have hrl2 : lenOf (ix L2 k) = some ws.length := by rw [hr.len, List.length_map]
    have hra : (ws.map Fw).all LV.isCell = true := by rw [List.all_eq_true]; intro x hx; obtain ⟨y, _, rfl⟩ := List.mem_map.1 hx; rfl
    clear hKZ KZ
    repeat' (first
 | ((with_reducible refine hK _ _ ?_); clear hK K)
 | ((first | (with_reducible show AOp _ _ _ _ _ _ _)); simp (disch := first | ((with_reducible show liveO _ _ _ = true); first | assumption | (exact hS.lvB) | (exact hS.lvBA _) | (exact hS.lvA) | (exact hS.lvAA _) | (exact hS.bSl _ _) | (exact bSl _) | (exact aSl _) | (exact liveO_setS (by assumption)) | (exact PtL.live (by assumption)) | (exact PtL.liveA (by assumption) _) | (simp only [go_sem]; done)) | omega | assumption | rfl | (simp only [go_sem]; first | done | omega)) only [go_sem, reduceIte, reduceCtorEq, Nat.reduceAdd, Nat.reduceMul, Nat.reduceSub, Nat.reduceLeDiff, Nat.lt_irrefl, Nat.reduceLT, Nat.reduceEqDiff, Nat.reduceBEq, Int.reduceLE, Int.reduceLT, Int.reduceToNat, w64, eq_self, hll', hz.idx, hz.ldx])
 | ((with_reducible refine AW_seqN [7] ?_ (fun K hK => ?_)); (exact rfl))
 | (with_reducible refine AW_region tyOk ?_)
 | (with_reducible refine AOps_cons (fun K hK => ?_))
 | ((with_reducible refine AOps_nil ?_); try simp only [thenA, blockA, if_true, if_false, reduceIte, Nat.reduceEqDiff, reduceCtorEq])
 | (with_reducible refine AW_block ?_)
 | ((first | (with_reducible refine AW_ret ?_) | (with_reducible refine AW_skip ?_) | (with_reducible refine AW_exit ?_)); try simp only [thenA, blockA, if_true, if_false, reduceIte, Nat.reduceEqDiff, reduceCtorEq])
 | ((with_reducible show AW _ _ (.cond _ _ _) _ _ _); refine AW_cond rfl (fun hg => ?_) (fun hg => ?_) <;> first | (exfalso; simp only [reduceCtorEq] at hg; done) | ((try simp only [Bool.not_eq_true', Bool.not_eq_false', decide_eq_true_eq, decide_eq_false_iff_not] at hg); try (exfalso; omega)))
 | ((with_reducible show _ ∧ _); refine And.intro (fun hg => ?_) (fun hg => ?_) <;> (try simp only [Bool.not_eq_true', Bool.not_eq_false'] at hg) <;> simp only [hg] <;> (try simp only [decide_eq_true_eq, decide_eq_false_iff_not] at hg) <;> (try (exfalso; omega)))
 | (clear hK K)
      | fail)
    refine AW_seqM [35, 36, 37, 38, 39, 40, 41, 42, 43, 44] (fun p : Hp => []) (fun p => p) (fun p => ∃ Z1 v9 P1, SM (Hb ++ [(⟨0, false, 29, 3, [.int .i64 (2 * q : Nat), .int .i64 s, v]⟩ : AO), ⟨0, false, 29, 3, [.int .i64 (2 * q : Nat), .int .i64 s2, v2]⟩, ⟨0, false, 29, 3, [.int .i64 0, .int .i64 0, .nils]⟩]) Z1 B (2 * q : Nat) s A v9 P1 ∧ wR P1 = mgG (mgS la lb k) k ∧ ∀ tm, Wk Hb tm p tm Z1) (fun K hK => ?_) (fun p hp => ?_)
    · by_cases hlast : k = P.length
      · have hbe : (((k : Nat) : Int) == ((P.length : Nat) : Int)) = true := by (simp; omega)
        have oA : ∀ L : Hp, (Z ++ L)[A]? = some ⟨v1, false, 25, 1, P.map cR⟩ := at_app hS.ls.out
        have hcl2 : (P.map cR).length = P.length := List.length_map ..
        have hcc := cR_cells P
        have hPn : P.length ≤ 1048576 := by omega
        repeat' (first
 | ((with_reducible refine hK _ _ ?_); clear hK K)
 | ((first | (with_reducible show AOp _ _ _ _ _ _ _)); simp (disch := first | ((with_reducible show liveO _ _ _ = true); first | assumption | (exact hS.lvB) | (exact hS.lvBA _) | (exact hS.lvA) | (exact hS.lvAA _) | (exact hS.bSl _ _) | (exact bSl _) | (exact aSl _) | (exact liveO_setS (by assumption)) | (exact PtL.live (by assumption)) | (exact PtL.liveA (by assumption) _) | (simp only [go_sem]; done)) | omega | assumption | rfl | (simp only [go_sem]; first | done | omega)) only [go_sem, reduceIte, reduceCtorEq, Nat.reduceAdd, Nat.reduceMul, Nat.reduceSub, Nat.reduceLeDiff, Nat.lt_irrefl, Nat.reduceLT, Nat.reduceEqDiff, Nat.reduceBEq, Int.reduceLE, Int.reduceLT, Int.reduceToNat, w64, eq_self, hS.gB, hS.gA, hS.bSp, hbe, oA, hcl2, hcc])
 | (with_reducible refine AW_seq (fun K hK => ?_))
 | (with_reducible refine AW_region tyOk ?_)
 | (with_reducible refine AOps_cons (fun K hK => ?_))
 | ((with_reducible refine AOps_nil ?_); try simp only [thenA, blockA, if_true, if_false, reduceIte, Nat.reduceEqDiff, reduceCtorEq])
 | (with_reducible refine AW_block ?_)
 | ((first | (with_reducible refine AW_ret ?_) | (with_reducible refine AW_skip ?_) | (with_reducible refine AW_exit ?_)); try simp only [thenA, blockA, if_true, if_false, reduceIte, Nat.reduceEqDiff, reduceCtorEq])
 | ((with_reducible show AW _ _ (.cond _ _ _) _ _ _); refine AW_cond rfl (fun hg => ?_) (fun hg => ?_) <;> first | (exfalso; simp only [reduceCtorEq] at hg; done) | ((try simp only [Bool.not_eq_true', Bool.not_eq_false', decide_eq_true_eq, decide_eq_false_iff_not] at hg); try (exfalso; omega)))
 | ((with_reducible show _ ∧ _); refine And.intro (fun hg => ?_) (fun hg => ?_) <;> (try simp only [Bool.not_eq_true', Bool.not_eq_false'] at hg) <;> simp only [hg] <;> (try simp only [decide_eq_true_eq, decide_eq_false_iff_not] at hg) <;> (try (exfalso; omega)))
 | (clear hK K)
          | fail)
        refine hK _ _ _ ⟨_, v1 + 1, P ++ [(Z.length + 1, 0, [])], hS.addN [⟨0, false, 25, 1, [.nils]⟩, ⟨0, false, 32, 1, []⟩] 1 [] rfl, ?_, fun tm => ?_⟩ ?_ rfl
        · show List.map _ (P ++ [_]) = _
          rw [List.map_append]
          show wR P ++ [[]] = _
          rw [hW]; unfold mgG; rw [if_pos (by rw [mgS_len']; omega)]
        · exact grownW hS.ls.ltA hS.ltB hS.nA _ _
        · simp only [junkAll, setAll, List.foldl_cons, List.foldl_nil, List.set_cons_succ, List.set_cons_zero, JL, true_or, or_true, and_true, true_and, reduceCtorEq, false_or, or_false, LV.int.injEq, LV.bool.injEq, LV.flt.injEq, LV.sl.injEq, LV.ptr.injEq, eq_self, Int.natCast_add, Int.natCast_one, Int.natCast_zero, Int.ofNat_zero]
      · have hbe : (((k : Nat) : Int) == ((P.length : Nat) : Int)) = false := by (simp; omega)
        repeat' (first
 | ((with_reducible refine hK _ _ ?_); clear hK K)
 | ((first | (with_reducible show AOp _ _ _ _ _ _ _)); simp (disch := first | ((with_reducible show liveO _ _ _ = true); first | assumption | (exact hS.lvB) | (exact hS.lvBA _) | (exact hS.lvA) | (exact hS.lvAA _) | (exact hS.bSl _ _) | (exact bSl _) | (exact aSl _) | (exact liveO_setS (by assumption)) | (exact PtL.live (by assumption)) | (exact PtL.liveA (by assumption) _) | (simp only [go_sem]; done)) | omega | assumption | rfl | (simp only [go_sem]; first | done | omega)) only [go_sem, reduceIte, reduceCtorEq, Nat.reduceAdd, Nat.reduceMul, Nat.reduceSub, Nat.reduceLeDiff, Nat.lt_irrefl, Nat.reduceLT, Nat.reduceEqDiff, Nat.reduceBEq, Int.reduceLE, Int.reduceLT, Int.reduceToNat, w64, eq_self, hS.gB, hS.gA, hbe])
 | (with_reducible refine AW_seq (fun K hK => ?_))
 | (with_reducible refine AW_region tyOk ?_)
 | (with_reducible refine AOps_cons (fun K hK => ?_))
 | ((with_reducible refine AOps_nil ?_); try simp only [thenA, blockA, if_true, if_false, reduceIte, Nat.reduceEqDiff, reduceCtorEq])
 | (with_reducible refine AW_block ?_)
 | ((first | (with_reducible refine AW_ret ?_) | (with_reducible refine AW_skip ?_) | (with_reducible refine AW_exit ?_)); try simp only [thenA, blockA, if_true, if_false, reduceIte, Nat.reduceEqDiff, reduceCtorEq])
 | ((with_reducible show AW _ _ (.cond _ _ _) _ _ _); refine AW_cond rfl (fun hg => ?_) (fun hg => ?_) <;> first | (exfalso; simp only [reduceCtorEq] at hg; done) | ((try simp only [Bool.not_eq_true', Bool.not_eq_false', decide_eq_true_eq, decide_eq_false_iff_not] at hg); try (exfalso; omega)))
 | ((with_reducible show _ ∧ _); refine And.intro (fun hg => ?_) (fun hg => ?_) <;> (try simp only [Bool.not_eq_true', Bool.not_eq_false'] at hg) <;> simp only [hg] <;> (try simp only [decide_eq_true_eq, decide_eq_false_iff_not] at hg) <;> (try (exfalso; omega)))
 | (clear hK K)
          | fail)
        refine hK _ _ Z ⟨Z, v1, P, hS, ?_, fun tm => Wk.refl⟩ ?_ rfl
        · rw [hW]; unfold mgG; rw [if_neg (by rw [mgS_len']; omega)]
        · simp only [junkAll, setAll, List.foldl_cons, List.foldl_nil, List.set_cons_succ, List.set_cons_zero, JL, true_or, or_true, and_true, true_and, reduceCtorEq, false_or, or_false, LV.int.injEq, LV.bool.injEq, LV.flt.injEq, LV.sl.injEq, LV.ptr.injEq, eq_self, Int.natCast_add, Int.natCast_one, Int.natCast_zero, Int.ofNat_zero]
    obtain ⟨Z1, v3, P1, hS1, hW1, hwk⟩ := hp
    refine AW.weak (hwk _) ?_
    clear hS hwk hz hzL hr
    have hS := hS1
    obtain ⟨KZ, hKZ⟩ := hS.ls.pre
    have hz : RdL Z1 v2 L2 := by rw [hKZ, List.append_assoc]; exact h'.app _
    have hzL : RdLL Z1 L2 (lb.map fun ws => ws.map some) := by rw [hKZ, List.append_assoc]; exact hL'.app _
    have hr := hzL.at (k := k) (by rw [List.length_map]; exact hkl)
    rw [ix_mapA _ hkl, Fw_map, hws] at hr
    have hrc := fun X => (hr.app X).cells
    have hrc0 := hr.cells
    clear hKZ KZ
    have hP1l : P1.length = (mgG (mgS la lb k) k).length := by rw [← wR_len P1, hW1]
    have hk1 : k < P1.length := by
      rw [hP1l, mgG_len, mgS_len']; split <;> omega
    obtain ⟨i1, v4, w1, hi1⟩ : ∃ i1 v4 w1, ix P1 k = (i1, v4, w1) := ⟨_, _, _, rfl⟩
    have hw1 : ix (mgG (mgS la lb k) k) k = w1 := by have := wR_ix hk1; rw [hW1, hi1] at this; exact this
    have hw1n : w1.length ≤ 2048 := by
      have := totW_at (ls := mgG (mgS la lb k) k) (k := k) (by rw [← hP1l]; exact hk1)
      rw [hw1, mgG_tot, ← hW] at this; omega
    have hcell : (P1.map cR)[k]? = some (.sl i1 v4 0 w1.length none) := by rw [List.getElem?_map, ix_get? _ _ hk1, hi1]; rfl
    have o1 : Z1[i1]? = some ⟨v4, false, 32, 1, w1.map Fw⟩ := by have := (hS.ls.row k hk1).1; rw [hi1] at this; exact this
    have n1A : i1 ≠ A := by have := (hS.ls.row k hk1).2.2; rw [hi1] at this; exact this
    have n1B : i1 ≠ B := by have := hS.nk k hk1; rw [hi1] at this; exact this
    have bS : ∀ (o : AO), (Z1.set i1 o)[B]? = some (bxL (2 * q : Nat) s A v3 P1.length) := fun o => by rw [List.getElem?_set_ne n1B]; exact hS.box
    have aS : ∀ (o : AO), (Z1.set i1 o)[A]? = some ⟨v3, false, 25, 1, P1.map cR⟩ := fun o => by rw [List.getElem?_set_ne n1A]; exact hS.ls.out
    have bSl : ∀ (o : AO), liveO (Z1.set i1 o) B 0 = true := fun o => liveO_at (bS o)
    have aSl : ∀ (o : AO), liveO (Z1.set i1 o) A v3 = true := fun o => liveO_at (aS o)
    have bSg : ∀ (o : AO) (j : Nat), hget (Z1.set i1 o) B 0 j = ([.int .i64 (2 * q : Nat), .int .i64 s, .sl A v3 0 P1.length none] : List LV)[j]? := fun o j => hget_at (bS o)
    have aSp : ∀ (o : AO) (x : LV), hput (Z1.set i1 o) A v3 k [x] = some ((Z1.set i1 o).set A ⟨v3, false, 25, 1, (P1.map cR).set k x⟩) := fun o x => hputA_at (aS o) (by simp; omega)
    have hwc : (w1.map Fw).length = w1.length := List.length_map ..
    have hwa : (w1.map Fw).all LV.isCell = true := by rw [List.all_eq_true]; intro x hx; obtain ⟨y, _, rfl⟩ := List.mem_map.1 hx; rfl
    simp only [junkAll, setAll, List.foldl_cons, List.foldl_nil, List.set_cons_succ, List.set_cons_zero]
    have fin : ∀ v', wR (P1.set k (i1, v', w1 ++ ws)) = mgS la lb (k + 1) := fun v' => by
      show List.map _ (List.set _ _ _) = _
      rw [List.map_set]
      show (wR P1).set k (w1 ++ ws) = _
      rw [hW1]
      show _ = (mgG (mgS la lb k) k).set k (ix (mgG (mgS la lb k) k) k ++ ix lb k)
      rw [hw1, hws]
    obtain ⟨v5, hv5⟩ := aapp5 (el := 32) (H := Z1) (id := i1) (ver := v4) (n := w1.length) (m := ws.length) (cs := w1.map Fw) (news := ws.map Fw) hwc hwa (List.length_map ..) (by omega)
    have hS4 := hS.putOld hk1 v5 (w1 ++ ws)
    rw [hi1] at hS4
    simp only [List.map_append, List.length_append] at hS4
    repeat' (first
 | ((with_reducible refine hK _ _ ?_); clear hK K)
 | ((with_reducible refine hK _ ?_); clear hK K; try simp only [])
 | ((with_reducible refine hK _ _ ?_ ?_); (first | exact Or.inl rfl | (with_reducible exact Or.inr id) | exact Or.inr (fun _ => by (first | exact ⟨_, by rw [hp_setj, List.append_assoc]; rfl⟩ | exact ⟨_, by rw [List.append_assoc]; rfl⟩ | exact ⟨_, rfl⟩ | exact ⟨_, by rw [List.append_assoc]; rfl⟩ | exact ⟨_, by simp only [List.append_assoc, List.cons_append, List.nil_append]; rfl⟩ | exact ⟨_, by rw [hp_setj, List.append_assoc]; rfl⟩ | exact ⟨_, hp_setj _ _ _ _⟩ | exact ⟨[], (List.append_nil _).symm⟩))); clear hK K; (try simp only [hp_setj, hp_set0, List.set_cons_succ, List.set_cons_zero, Nat.zero_add, Nat.reduceAdd, List.append_assoc, List.cons_append, List.nil_append, List.length_append, List.length_cons, List.length_nil, hS.gB, hS.gA, hS.gBA, hS.gAA, bSg, aSp, hcell, o1, hwc, hrl2, hrc, hrc0, hra, hv5]))
 | ((first | (with_reducible show AOp _ _ _ _ _ _ _) | (with_reducible show AQOp _ _ _ _ _ _ _)); simp (disch := first | ((with_reducible show liveO _ _ _ = true); first | assumption | (exact hS.lvB) | (exact hS.lvBA _) | (exact hS.lvA) | (exact hS.lvAA _) | (exact hS.bSl _ _) | (exact bSl _) | (exact aSl _) | (exact liveO_setS (by assumption)) | (exact PtL.live (by assumption)) | (exact PtL.liveA (by assumption) _) | (simp only [go_sem]; done)) | omega | assumption | rfl | (simp only [go_sem]; first | done | omega)) only [go_sem, reduceIte, reduceCtorEq, Nat.reduceAdd, Nat.reduceMul, Nat.reduceSub, Nat.reduceLeDiff, Nat.lt_irrefl, Nat.reduceLT, Nat.reduceEqDiff, Nat.reduceBEq, Int.reduceLE, Int.reduceLT, Int.reduceToNat, w64, eq_self, hS.gB, hS.gA, hS.gBA, hS.gAA, bSg, aSp, hcell, o1, hwc, hrl2, hrc, hrc0, hra, hv5])
 | (with_reducible refine AW_seq (fun K hK => ?_))
 | (with_reducible refine AW_region tyOk ?_)
 | ((with_reducible apply AW_treeV (id := 9) tyOk 12 [] [] [9, 10, 11]); (kernel_rfl); (exact rfl); simp only [List.map_cons, List.map_nil, List.append_assoc, List.cons_append, List.nil_append])
 | ((with_reducible refine AAnyR_leaf (by decide +kernel) ?_); (with_reducible exact Wk.refl))
 | ((with_reducible show AAnyR _ _ _ _ _ _ _ _ _ _ _ _); (first | (with_reducible refine AAnyR_canon (listed := Array.replicate 12 false) (mB 12 0) (by decide +kernel) ?_) | ((with_reducible refine AAnyR_quiet (listed := (mB 12 0)) 3 rfl rfl ?_ (by decide +kernel) (by decide +kernel) (by decide +kernel) (by decide +kernel) (by (first | exact ⟨_, rfl⟩ | exact ⟨_, by rw [List.append_assoc]; rfl⟩ | exact ⟨_, by simp only [List.append_assoc, List.cons_append, List.nil_append]; rfl⟩ | exact ⟨_, by rw [hp_setj, List.append_assoc]; rfl⟩ | exact ⟨_, hp_setj _ _ _ _⟩ | exact ⟨[], (List.append_nil _).symm⟩)) (fun K hK => ?_)); (exact rfl)) | (with_reducible refine AAnyR_canon (listed := Array.setIfInBounds (mB 12 0) 3 true) (mB 12 8) (by decide +kernel) ?vs2_8) | ((with_reducible refine AAnyR_quiet (listed := (mB 12 8)) 4 rfl rfl ?_ (by decide +kernel) (by decide +kernel) (by decide +kernel) (by decide +kernel) (by (first | exact ⟨_, rfl⟩ | exact ⟨_, by rw [List.append_assoc]; rfl⟩ | exact ⟨_, by simp only [List.append_assoc, List.cons_append, List.nil_append]; rfl⟩ | exact ⟨_, by rw [hp_setj, List.append_assoc]; rfl⟩ | exact ⟨_, hp_setj _ _ _ _⟩ | exact ⟨[], (List.append_nil _).symm⟩)) (fun K hK => ?_)); (exact rfl)) | (with_reducible refine AAnyR_canon (listed := Array.setIfInBounds (mB 12 8) 4 true) (mB 12 24) (by decide +kernel) ?vs2_24) | ((with_reducible refine AAnyR_quiet (listed := (mB 12 24)) 5 rfl rfl ?_ (by decide +kernel) (by decide +kernel) (by decide +kernel) (by decide +kernel) (by (first | exact ⟨_, rfl⟩ | exact ⟨_, by rw [List.append_assoc]; rfl⟩ | exact ⟨_, by simp only [List.append_assoc, List.cons_append, List.nil_append]; rfl⟩ | exact ⟨_, by rw [hp_setj, List.append_assoc]; rfl⟩ | exact ⟨_, hp_setj _ _ _ _⟩ | exact ⟨[], (List.append_nil _).symm⟩)) (fun K hK => ?_)); (exact rfl)) | (with_reducible refine AAnyR_canon (listed := Array.setIfInBounds (mB 12 24) 5 true) (mB 12 56) (by decide +kernel) ?vs2_56) | ((with_reducible refine AAnyR_quiet (listed := (mB 12 56)) 6 rfl rfl ?_ (by decide +kernel) (by decide +kernel) (by decide +kernel) (by decide +kernel) (by (first | exact ⟨_, rfl⟩ | exact ⟨_, by rw [List.append_assoc]; rfl⟩ | exact ⟨_, by simp only [List.append_assoc, List.cons_append, List.nil_append]; rfl⟩ | exact ⟨_, by rw [hp_setj, List.append_assoc]; rfl⟩ | exact ⟨_, hp_setj _ _ _ _⟩ | exact ⟨[], (List.append_nil _).symm⟩)) (fun K hK => ?_)); (exact rfl)) | (with_reducible refine AAnyR_canon (listed := Array.setIfInBounds (mB 12 56) 6 true) (mB 12 120) (by decide +kernel) ?vs2_120) | ((with_reducible refine AAnyR_quiet (listed := (mB 12 120)) 7 rfl rfl ?_ (by decide +kernel) (by decide +kernel) (by decide +kernel) (by decide +kernel) (by (first | exact ⟨_, rfl⟩ | exact ⟨_, by rw [List.append_assoc]; rfl⟩ | exact ⟨_, by simp only [List.append_assoc, List.cons_append, List.nil_append]; rfl⟩ | exact ⟨_, by rw [hp_setj, List.append_assoc]; rfl⟩ | exact ⟨_, hp_setj _ _ _ _⟩ | exact ⟨[], (List.append_nil _).symm⟩)) (fun K hK => ?_)); (exact rfl)) | (with_reducible refine AAnyR_canon (listed := Array.setIfInBounds (mB 12 120) 7 true) (mB 12 248) (by decide +kernel) ?vs2_248) | ((with_reducible refine AAnyR_quiet (listed := (mB 12 248)) 8 rfl rfl ?_ (by decide +kernel) (by decide +kernel) (by decide +kernel) (by decide +kernel) (by (first | exact ⟨_, rfl⟩ | exact ⟨_, by rw [List.append_assoc]; rfl⟩ | exact ⟨_, by simp only [List.append_assoc, List.cons_append, List.nil_append]; rfl⟩ | exact ⟨_, by rw [hp_setj, List.append_assoc]; rfl⟩ | exact ⟨_, hp_setj _ _ _ _⟩ | exact ⟨[], (List.append_nil _).symm⟩)) (fun K hK => ?_)); (exact rfl)) | (with_reducible refine AAnyR_canon (listed := Array.setIfInBounds (mB 12 248) 8 true) (mB 12 504) (by decide +kernel) ?vs2_504) | ((with_reducible refine AAnyR_step (listed := (mB 12 504)) 0 [2, 9] ?_ ?_); (decide +kernel)) | (with_reducible refine AAnyR_canon (listed := Array.setIfInBounds (mB 12 504) 0 true) (mB 12 505) (by decide +kernel) ?vs2_505) | (with_reducible refine AAnyR_canon (listed := Array.setIfInBounds (mB 12 504) 2 true) (mB 12 508) (by decide +kernel) ?vs2_508) | (with_reducible refine AAnyR_canon (listed := Array.setIfInBounds (mB 12 504) 9 true) (mB 12 1016) (by decide +kernel) ?vs2_1016) | ((with_reducible refine AAnyR_step (listed := (mB 12 505)) 1 [2, 9] ?_ ?_); (decide +kernel)) | (with_reducible refine AAnyR_canon (listed := Array.setIfInBounds (mB 12 505) 1 true) (mB 12 507) (by decide +kernel) ?vs2_507) | (with_reducible refine AAnyR_canon (listed := Array.setIfInBounds (mB 12 505) 2 true) (mB 12 509) (by decide +kernel) ?vs2_509) | (with_reducible refine AAnyR_canon (listed := Array.setIfInBounds (mB 12 505) 9 true) (mB 12 1017) (by decide +kernel) ?vs2_1017) | ((with_reducible refine AAnyR_step (listed := (mB 12 507)) 2 [9] ?_ ?_); (decide +kernel)) | (with_reducible refine AAnyR_canon (listed := Array.setIfInBounds (mB 12 507) 2 true) (mB 12 511) (by decide +kernel) ?vs2_511) | (with_reducible refine AAnyR_canon (listed := Array.setIfInBounds (mB 12 507) 9 true) (mB 12 1019) (by decide +kernel) ?vs2_1019) | ((with_reducible refine AAnyR_step (listed := (mB 12 511)) 9 [] ?_ ?_); (decide +kernel)) | (with_reducible refine AAnyR_canon (listed := Array.setIfInBounds (mB 12 511) 9 true) (mB 12 1023) (by decide +kernel) ?vs2_1023) | ((with_reducible refine AAnyR_step (listed := (mB 12 1023)) 10 [] ?_ ?_); (decide +kernel)) | (with_reducible refine AAnyR_canon (listed := Array.setIfInBounds (mB 12 1023) 10 true) (mB 12 2047) (by decide +kernel) ?vs2_2047) | ((with_reducible refine AAnyR_step (listed := (mB 12 2047)) 11 [] ?_ ?_); (decide +kernel)) | (with_reducible refine AAnyR_canon (listed := Array.setIfInBounds (mB 12 2047) 11 true) (mB 12 4095) (by decide +kernel) ?vs2_4095) | ((with_reducible refine AAnyR_step (listed := (mB 12 1019)) 2 [] ?_ ?_); (decide +kernel)) | (with_reducible refine AAnyR_canon (listed := Array.setIfInBounds (mB 12 1019) 2 true) (mB 12 1023) (by decide +kernel) ?vs2_1023) | ((with_reducible refine AAnyR_step (listed := (mB 12 509)) 1 [9] ?_ ?_); (decide +kernel)) | (with_reducible refine AAnyR_canon (listed := Array.setIfInBounds (mB 12 509) 1 true) (mB 12 511) (by decide +kernel) ?vs2_511) | (with_reducible refine AAnyR_canon (listed := Array.setIfInBounds (mB 12 509) 9 true) (mB 12 1021) (by decide +kernel) ?vs2_1021) | ((with_reducible refine AAnyR_step (listed := (mB 12 1021)) 1 [] ?_ ?_); (decide +kernel)) | (with_reducible refine AAnyR_canon (listed := Array.setIfInBounds (mB 12 1021) 1 true) (mB 12 1023) (by decide +kernel) ?vs2_1023) | ((with_reducible refine AAnyR_step (listed := (mB 12 1017)) 1 [2] ?_ ?_); (decide +kernel)) | (with_reducible refine AAnyR_canon (listed := Array.setIfInBounds (mB 12 1017) 1 true) (mB 12 1019) (by decide +kernel) ?vs2_1019) | (with_reducible refine AAnyR_canon (listed := Array.setIfInBounds (mB 12 1017) 2 true) (mB 12 1021) (by decide +kernel) ?vs2_1021) | ((with_reducible refine AAnyR_step (listed := (mB 12 508)) 0 [9] ?_ ?_); (decide +kernel)) | (with_reducible refine AAnyR_canon (listed := Array.setIfInBounds (mB 12 508) 0 true) (mB 12 509) (by decide +kernel) ?vs2_509) | (with_reducible refine AAnyR_canon (listed := Array.setIfInBounds (mB 12 508) 9 true) (mB 12 1020) (by decide +kernel) ?vs2_1020) | ((with_reducible refine AAnyR_step (listed := (mB 12 1020)) 0 [] ?_ ?_); (decide +kernel)) | (with_reducible refine AAnyR_canon (listed := Array.setIfInBounds (mB 12 1020) 0 true) (mB 12 1021) (by decide +kernel) ?vs2_1021) | ((with_reducible refine AAnyR_step (listed := (mB 12 1016)) 0 [2] ?_ ?_); (decide +kernel)) | (with_reducible refine AAnyR_canon (listed := Array.setIfInBounds (mB 12 1016) 0 true) (mB 12 1017) (by decide +kernel) ?vs2_1017) | (with_reducible refine AAnyR_canon (listed := Array.setIfInBounds (mB 12 1016) 2 true) (mB 12 1020) (by decide +kernel) ?vs2_1020)))
 | ((with_reducible show RK _ _ _ _ _ _); (try simp only [List.append_assoc, List.cons_append, List.nil_append, hp_setj, List.set_cons_succ, List.set_cons_zero]); refine RK_intro _ (by first | exact List.append_assoc _ _ _ | rfl) (by first | exact (hp_getj _ _ _).trans rfl | exact (hp_get0 _ _).trans rfl) rfl rfl (by intro c hc; simp only [List.mem_cons, List.not_mem_nil, or_false] at hc; (try (rcases hc with rfl | rfl | rfl | rfl | rfl)) <;> first | exact trivial | (subst hc; exact trivial) | (cases hc; done)) (by first | exact ⟨_, _, rfl, by simp, Or.inl rfl⟩ | exact ⟨_, _, rfl, by simp, Or.inr ⟨_, rfl⟩⟩) ?_; simp only [hp_setj, hp_set0, List.set_cons_succ, List.set_cons_zero, List.getD_cons_succ, List.getD_cons_zero, reloc]; refine ⟨Or.inr (fun _ => by (first | exact ⟨_, rfl⟩ | exact ⟨_, by rw [List.append_assoc]; rfl⟩ | exact ⟨_, by simp only [List.append_assoc, List.cons_append, List.nil_append]; rfl⟩ | exact ⟨_, by rw [hp_setj, List.append_assoc]; rfl⟩ | exact ⟨_, hp_setj _ _ _ _⟩ | exact ⟨[], (List.append_nil _).symm⟩)), ?_⟩)
 | ((with_reducible refine AAllR_cons ?_ rfl (fun K hK => ?_) ?_); (exact rfl))
 | (with_reducible exact AAllR_nil)
 | ((with_reducible show thenA _ _ _ _ _); simp only [thenA, blockA, if_true, if_false, reduceIte])
 | ((with_reducible show blockA _ _ _ _ _); simp only [thenA, blockA, if_true, if_false, reduceIte, Nat.reduceEqDiff, reduceCtorEq])
 | (with_reducible refine AOps_cons (fun K hK => ?_))
 | (with_reducible refine AQOps_cons (fun K hK => ?_))
 | ((with_reducible refine AQOps_nil ?_); try simp only [thenA, blockA, if_true, if_false, reduceIte, Nat.reduceEqDiff, reduceCtorEq])
 | ((with_reducible refine AOps_nil ?_); try simp only [thenA, blockA, if_true, if_false, reduceIte, Nat.reduceEqDiff, reduceCtorEq])
 | (with_reducible refine AW_block ?_)
 | ((first | (with_reducible refine AW_ret ?_) | (with_reducible refine AW_skip ?_) | (with_reducible refine AW_exit ?_)); try simp only [thenA, blockA, if_true, if_false, reduceIte, Nat.reduceEqDiff, reduceCtorEq])
 | ((with_reducible show AW _ _ (.cond _ _ _) _ _ _); refine AW_cond rfl (fun hg => ?_) (fun hg => ?_) <;> first | (exfalso; simp only [reduceCtorEq] at hg; done) | ((try simp only [Bool.not_eq_true', Bool.not_eq_false', decide_eq_true_eq, decide_eq_false_iff_not] at hg); try (exfalso; omega)))
 | ((with_reducible show _ ∧ _); refine And.intro (fun hg => ?_) (fun hg => ?_) <;> (try simp only [Bool.not_eq_true', Bool.not_eq_false'] at hg) <;> simp only [hg] <;> (try simp only [decide_eq_true_eq, decide_eq_false_iff_not] at hg) <;> (try (exfalso; omega)))
 | (clear hK K)
      | fail)
    refine hK _ _ (k + 1, _, v3, P1.set k (i1, v5, w1 ++ ws)) ⟨by simp only; omega, hS4, fin _⟩ (by simp only; omega) ?_ rfl
    simp only [junkAll, setAll, List.foldl_cons, List.foldl_nil, List.set_cons_succ, List.set_cons_zero, JL, true_or, or_true, and_true, true_and, reduceCtorEq, false_or, or_false, LV.int.injEq, LV.bool.injEq, LV.flt.injEq, LV.sl.injEq, LV.ptr.injEq, eq_self, Int.natCast_add, Int.natCast_one, Int.natCast_zero, Int.ofNat_zero]
  · have hke : k = lb.length := by omega
    rw [hke, hM] at hW
    have gB3 : hgets Z B 0 0 3 = some [.int .i64 (2 * q : Nat), .int .i64 s, .sl A v1 0 P.length none] := by have := hS.box; simp [hgets, this, bxL]
    repeat' (first
 | ((with_reducible refine hK _ _ ?_); clear hK K)
 | ((first | (with_reducible show AOp _ _ _ _ _ _ _)); simp (disch := first | ((with_reducible show liveO _ _ _ = true); first | assumption | (exact hS.lvB) | (exact hS.lvBA _) | (exact hS.lvA) | (exact hS.lvAA _) | (exact hS.bSl _ _) | (exact bSl _) | (exact aSl _) | (exact liveO_setS (by assumption)) | (exact PtL.live (by assumption)) | (exact PtL.liveA (by assumption) _) | (simp only [go_sem]; done)) | omega | assumption | rfl | (simp only [go_sem]; first | done | omega)) only [go_sem, reduceIte, reduceCtorEq, Nat.reduceAdd, Nat.reduceMul, Nat.reduceSub, Nat.reduceLeDiff, Nat.lt_irrefl, Nat.reduceLT, Nat.reduceEqDiff, Nat.reduceBEq, Int.reduceLE, Int.reduceLT, Int.reduceToNat, w64, eq_self, hll', gB3])
 | (with_reducible refine AW_seq (fun K hK => ?_))
 | (with_reducible refine AW_region tyOk ?_)
 | (with_reducible refine AOps_cons (fun K hK => ?_))
 | ((with_reducible refine AOps_nil ?_); try simp only [thenA, blockA, if_true, if_false, reduceIte, Nat.reduceEqDiff, reduceCtorEq])
 | (with_reducible refine AW_block ?_)
 | ((first | (with_reducible refine AW_ret ?_) | (with_reducible refine AW_skip ?_) | (with_reducible refine AW_exit ?_)); try simp only [thenA, blockA, if_true, if_false, reduceIte, Nat.reduceEqDiff, reduceCtorEq])
 | ((with_reducible show AW _ _ (.cond _ _ _) _ _ _); refine AW_cond rfl (fun hg => ?_) (fun hg => ?_) <;> first | (exfalso; simp only [reduceCtorEq] at hg; done) | ((try simp only [Bool.not_eq_true', Bool.not_eq_false', decide_eq_true_eq, decide_eq_false_iff_not] at hg); try (exfalso; omega)))
 | ((with_reducible show _ ∧ _); refine And.intro (fun hg => ?_) (fun hg => ?_) <;> (try simp only [Bool.not_eq_true', Bool.not_eq_false'] at hg) <;> simp only [hg] <;> (try simp only [decide_eq_true_eq, decide_eq_false_iff_not] at hg) <;> (try (exfalso; omega)))
 | (clear hK K)
      | fail)
    have hMP : P.length = M.length := by rw [← wR_len P, hW]
    have hset := settle_c _ Z A v1 q (plN M) s P hS.ls ⟨by omega, by omega⟩ ⟨hs0, hs1⟩ (by rw [hW]; omega) (by rw [hW]; unfold plN; omega)
    rw [hW, hR] at hset
    clear hKZ KZ hS hz hzL
    refine hset.mono ?_
    intro r' X' hQ
    unfold stQ at hQ
    cases ho : stOk (2 * q : Nat) R
    · have ho' : levB (2 * q : Nat) R.2 (R.1.map fun ws => ws.map some) = false := ho
      rw [ho'] at hQ
      simp only [Bool.false_eq_true, if_false] at hQ
      obtain ⟨rfl, K0, rfl⟩ := hQ
      simp only [List.append_assoc, List.cons_append, List.nil_append]
      repeat' (first
 | ((with_reducible refine hK _ _ ?_); clear hK K)
 | ((first | (with_reducible show AOp _ _ _ _ _ _ _)); simp (disch := first | ((with_reducible show liveO _ _ _ = true); first | assumption | (exact hS.lvB) | (exact hS.lvBA _) | (exact hS.lvA) | (exact hS.lvAA _) | (exact hS.bSl _ _) | (exact bSl _) | (exact aSl _) | (exact liveO_setS (by assumption)) | (exact PtL.live (by assumption)) | (exact PtL.liveA (by assumption) _) | (simp only [go_sem]; done)) | omega | assumption | rfl | (simp only [go_sem]; first | done | omega)) only [go_sem, reduceIte, reduceCtorEq, Nat.reduceAdd, Nat.reduceMul, Nat.reduceSub, Nat.reduceLeDiff, Nat.lt_irrefl, Nat.reduceLT, Nat.reduceEqDiff, Nat.reduceBEq, Int.reduceLE, Int.reduceLT, Int.reduceToNat, w64, eq_self])
 | (with_reducible refine AW_seq (fun K hK => ?_))
 | (with_reducible refine AW_region tyOk ?_)
 | (with_reducible refine AOps_cons (fun K hK => ?_))
 | ((with_reducible refine AOps_nil ?_); try simp only [thenA, blockA, if_true, if_false, reduceIte, Nat.reduceEqDiff, reduceCtorEq])
 | (with_reducible refine AW_block ?_)
 | ((first | (with_reducible refine AW_ret ?_) | (with_reducible refine AW_skip ?_) | (with_reducible refine AW_exit ?_)); try simp only [thenA, blockA, if_true, if_false, reduceIte, Nat.reduceEqDiff, reduceCtorEq])
 | ((with_reducible show AW _ _ (.cond _ _ _) _ _ _); refine AW_cond rfl (fun hg => ?_) (fun hg => ?_) <;> first | (exfalso; simp only [reduceCtorEq] at hg; done) | ((try simp only [Bool.not_eq_true', Bool.not_eq_false', decide_eq_true_eq, decide_eq_false_iff_not] at hg); try (exfalso; omega)))
 | ((with_reducible show _ ∧ _); refine And.intro (fun hg => ?_) (fun hg => ?_) <;> (try simp only [Bool.not_eq_true', Bool.not_eq_false'] at hg) <;> simp only [hg] <;> (try simp only [decide_eq_true_eq, decide_eq_false_iff_not] at hg) <;> (try (exfalso; omega)))
 | (clear hK K)
        | fail)
      refine EndA_rows [none] hcl (by first | exact Or.inr rfl | exact Or.inl rfl) (by simp only [Try.results10, resA, aresL, go_sem] <;> rfl) (by simp) (rows := [⟨0, false, 25, 1, []⟩]) (r := .tup [.agg [.int .i64 0, .int .i64 0, .sl Hb.length 0 0 0 none], .bool false]) ?_ ?_ ?_
      · exact ⟨RowOk.none, trivial⟩
      · exact TdT.tup ⟨TdL.agg ⟨TdB.old _ trivial rfl, TdB.old _ trivial rfl, TdB.virt 0 rfl, trivial⟩, TdL.cell (TdB.old _ trivial rfl), trivial⟩
      · rw [ho]; exact ⟨rfl, rfl⟩
    · have ho' : levB (2 * q : Nat) R.2 (R.1.map fun ws => ws.map some) = true := ho
      rw [ho'] at hQ
      simp only [if_true, reduceIte] at hQ
      obtain ⟨v', P', rfl, hw', hL'⟩ := hQ
      obtain ⟨K0, rfl⟩ := hL'.pre
      have hL3 := hL'.weak.setN (b := Hb.length + 2) ⟨0, false, 29, 3, [.int .i64 (2 * q : Nat), .int .i64 R.2, .sl A v' 0 P'.length none]⟩ (by omega) (by have := hL'.lo; rw [List.length_append] at this; simp only [List.length_cons, List.length_nil] at this; omega) (fun k hk => by have := (hL'.row k hk).2.1; rw [List.length_append] at this; simp only [List.length_cons, List.length_nil] at this; omega)
      simp only [List.append_assoc, List.cons_append, List.nil_append, hp_setj, List.set_cons_succ, List.set_cons_zero] at hL3 ⊢
      repeat' (first
 | ((with_reducible refine hK _ _ ?_); clear hK K)
 | ((first | (with_reducible show AOp _ _ _ _ _ _ _)); simp (disch := first | ((with_reducible show liveO _ _ _ = true); first | assumption | (exact hS.lvB) | (exact hS.lvBA _) | (exact hS.lvA) | (exact hS.lvAA _) | (exact hS.bSl _ _) | (exact bSl _) | (exact aSl _) | (exact liveO_setS (by assumption)) | (exact PtL.live (by assumption)) | (exact PtL.liveA (by assumption) _) | (simp only [go_sem]; done)) | omega | assumption | rfl | (simp only [go_sem]; first | done | omega)) only [go_sem, reduceIte, reduceCtorEq, Nat.reduceAdd, Nat.reduceMul, Nat.reduceSub, Nat.reduceLeDiff, Nat.lt_irrefl, Nat.reduceLT, Nat.reduceEqDiff, Nat.reduceBEq, Int.reduceLE, Int.reduceLT, Int.reduceToNat, w64, eq_self])
 | (with_reducible refine AW_seq (fun K hK => ?_))
 | (with_reducible refine AW_region tyOk ?_)
 | (with_reducible refine AOps_cons (fun K hK => ?_))
 | ((with_reducible refine AOps_nil ?_); try simp only [thenA, blockA, if_true, if_false, reduceIte, Nat.reduceEqDiff, reduceCtorEq])
 | (with_reducible refine AW_block ?_)
 | ((first | (with_reducible refine AW_ret ?_) | (with_reducible refine AW_skip ?_) | (with_reducible refine AW_exit ?_)); try simp only [thenA, blockA, if_true, if_false, reduceIte, Nat.reduceEqDiff, reduceCtorEq])
 | ((with_reducible show AW _ _ (.cond _ _ _) _ _ _); refine AW_cond rfl (fun hg => ?_) (fun hg => ?_) <;> first | (exfalso; simp only [reduceCtorEq] at hg; done) | ((try simp only [Bool.not_eq_true', Bool.not_eq_false', decide_eq_true_eq, decide_eq_false_iff_not] at hg); try (exfalso; omega)))
 | ((with_reducible show _ ∧ _); refine And.intro (fun hg => ?_) (fun hg => ?_) <;> (try simp only [Bool.not_eq_true', Bool.not_eq_false'] at hg) <;> simp only [hg] <;> (try simp only [decide_eq_true_eq, decide_eq_false_iff_not] at hg) <;> (try (exfalso; omega)))
 | (clear hK K)
        | fail)
      obtain ⟨K1, hK1, c1, c2, c3⟩ := hL3.cut
      obtain rfl := (List.append_cancel_left hK1).symm
      refine EndA_rows (jsL Hb.length A P') hcl (by first | exact Or.inr rfl | exact Or.inl rfl) (by simp only [Try.results10, resA, aresL, go_sem] <;> rfl) c1 c2 ?_ (r := .tup [.agg [.int .i64 (2 * q : Nat), .int .i64 R.2, .sl Hb.length 0 0 P'.length none], .bool true]) ?_
      · exact TdT.tup ⟨TdL.agg ⟨TdB.old _ trivial rfl, TdB.old _ trivial rfl, c3, trivial⟩, TdL.cell (TdB.old _ trivial rfl), trivial⟩
      · have hx : sxs P' = R.1.map fun ws => ws.map some := by unfold sxs; rw [hw']
        have hxl := sxs_len P'
        rw [ho]
        unfold plQ stX
        simp only [if_true, reduceIte]
        rw [← hx, hxl]
        exact ⟨rfl, rfl⟩
end Go.Proofs.Yteejnmgjjefbiaa
