/- Levels in the laws: made, marked, held, compared; where they lie. -/
import Derived.Test.YtonlgkecphijoaaYg
import Derived.Test.YtonlgkecphijoaaZo
namespace Go.Proofs.Ytonlgkecphijoaa
open Go.RowKit
set_option linter.unusedSimpArgs false
set_option linter.unusedVariables false
set_option maxRecDepth 100000

def qOf (b : Nat) (xss : List (List (Option Nat))) : List (Nat × List LV) := (List.range xss.length).map fun k => (b + k, (ix xss k).map (LV.flt .f32))
theorem qOf_len (b : Nat) (xss : List (List (Option Nat))) : (qOf b xss).length = xss.length := by simp [qOf]
theorem qOf_ix (b : Nat) (xss : List (List (Option Nat))) {k : Nat} (h : k < xss.length) : ix (qOf b xss) k = (b + k, (ix xss k).map (LV.flt .f32)) := by
  unfold qOf
  rw [ix_mapQ _ (by simpa using h), ix_eq _ _ (by simpa using h), List.getElem_range]
theorem qOf_snd (b : Nat) (xss : List (List (Option Nat))) : (qOf b xss).map Prod.snd = xss.map fun xs => xs.map (LV.flt .f32) := by
  refine List.ext_getElem (by simp [qOf]) fun k h1 h2 => ?_
  have hk : k < xss.length := by simpa using h2
  have e := qOf_ix b xss hk
  rw [ix_eq _ _ (by rw [qOf_len]; exact hk)] at e
  rw [List.getElem_map, List.getElem_map, e, ← ix_eq _ _ hk]
theorem qOf_cells (b : Nat) (xss : List (List (Option Nat))) : (qOf b xss).map cQ = rowsL b xss := by
  unfold qOf rowsL
  rw [List.map_map]
  refine List.map_congr_left fun k hk => ?_
  unfold cQ; simp
theorem totQ_of {Q : List (Nat × List LV)} {xss : List (List (Option Nat))} (e : Q.map Prod.snd = xss.map fun xs => xs.map (LV.flt .f32)) : Q.length = xss.length ∧ xss.length + totQ Q = totL xss := by
  have hl : Q.length = xss.length := by have := congrArg List.length e; simpa using this
  refine ⟨hl, ?_⟩
  have h1 : (Q.map Prod.snd).map List.length = (xss.map fun xs => xs.map (LV.flt .f32)).map List.length := by rw [e]
  rw [List.map_map, List.map_map] at h1
  unfold totQ totL stT
  rw [List.take_length]
  have h2 : (Q.map fun q => q.2.length) = Q.map (List.length ∘ Prod.snd) := rfl
  rw [h2, h1]
  congr 2
  refine List.map_congr_left fun xs _ => ?_
  simp
theorem Lv.of {H G : Hp} {a : Nat} {xss : List (List (Option Nat))} (h0 : G[a]? = some ⟨0, false, 41, 1, rowsL (H.length + (a + 1)) xss⟩) (hr : ∀ k, k < xss.length → G[a + 1 + k]? = some (rowF (ix xss k))) :
    Lv (H ++ G) H.length (H ++ G).length (H.length + a) (qOf (H.length + (a + 1)) xss) := by
  have ha := lt_of_getF h0
  refine ⟨by rw [hp_getj, h0, qOf_cells], ⟨by omega, by rw [List.length_append]; omega⟩, fun k hk => ?_, fun i k hi hk hik => ?_⟩
  · rw [qOf_len] at hk
    rw [qOf_ix _ _ hk]
    have h1 := hr k hk
    have h2 := lt_of_getF h1
    refine ⟨?_, ⟨by simp only; omega, by rw [List.length_append]; simp only; omega⟩, by simp only; omega⟩
    show (H ++ G)[H.length + (a + 1) + k]? = _
    rw [show H.length + (a + 1) + k = H.length + (a + 1 + k) by omega, hp_getj, h1]; rfl
  · rw [qOf_len] at hi hk
    rw [qOf_ix _ _ hi, qOf_ix _ _ hk]; simp only; omega
theorem mkH_app {X : Hp} {lo hi A : Nat} {Q : List (Nat × List LV)} (h : Lv X lo hi A Q) (hh : hi ≤ X.length) (k : Nat) (L : Hp) : ∀ j, j ≤ Q.length → mkH (X ++ L) k Q j = mkH X k Q j ++ L
  | 0, _ => rfl
  | j + 1, hj => by
    have := (h.row j (by omega)).2.1
    rw [mkH, mkH, mkH_app h hh k L j (by omega), List.set_append_left _ _ (by rw [mkH_len]; omega)]
theorem mkF_bnd (k i n : Nat) : bnd n (mkFloat32 k i) := by unfold mkFloat32; trivial
theorem mkH_closed {X : Hp} (h : Closed X) (k : Nat) (Q : List (Nat × List LV)) : ∀ j, j ≤ Q.length → Closed (mkH X k Q j)
  | 0, _ => h
  | j + 1, hj => by
    refine (mkH_closed h k Q j (by omega)).setScal _ _ fun c hc n => ?_
    rw [mkQ_ix _ _ (by omega)] at hc
    obtain ⟨i, _, rfl⟩ := List.mem_map.1 hc
    exact mkF_bnd _ _ _
theorem toLevels_ex2 (r s : Int) (v : LV) (L : List LV) (xss : List (List (Option Nat))) (H : Hp) (h : RdL H v L) (hL : RdLL H L xss) (hn : totL xss ≤ 1048576) :
    ∃ (A : Nat) (Q : List (Nat × List LV)) (K : Hp), Lv (H ++ K) H.length (H ++ K).length A Q ∧ Q.map Prod.snd = (xss.map fun xs => xs.map (LV.flt .f32)) ∧ FunH Try.prog 7 [.agg [.int .i64 r, .int .i64 s, v]] H fun r' H' => r' = .agg [.int .i64 r, .int .i64 s, .sl A 0 0 xss.length none] ∧ H' = H ++ K := by
  refine ⟨H.length + 3, qOf (H.length + (3 + 1)) xss, [⟨0, false, 24, 3, [.int .i64 r, .int .i64 s, v]⟩, ⟨0, false, 27, 3, [.int .i64 r, .int .i64 s, .sl (H.length + 3) 0 0 xss.length none]⟩, ⟨0, false, 27, 3, [.int .i64 r, .int .i64 s, .sl (H.length + 3) 0 0 xss.length none]⟩, ⟨0, false, 41, 1, rowsL (H.length + 4) xss⟩] ++ xss.map rowF, Lv.of rfl (fun k hk => ?_), qOf_snd _ _, ?_⟩
  · rw [List.getElem?_append_right (by simp only [List.length_cons, List.length_nil]; omega)]
    simp only [List.length_cons, List.length_nil, Nat.zero_add, Nat.reduceAdd, Nat.add_sub_cancel_left, List.getElem?_map, ix_get? _ _ hk]
    rfl
  · (refine FunH_body tyOk Try.func7 rfl (by kernel_rfl) Try.ntmps7 (fun hcl hbd => ?_); simp only [List.length_cons, List.length_nil, Nat.reduceAdd, Nat.reduceSub, List.replicate, List.cons_append, List.nil_append])
    repeat' (first
 | ((with_reducible refine hK _ _ ?_); clear hK K)
 | ((first | (with_reducible show AOp _ _ _ _ _ _ _)); simp (disch := first | ((with_reducible show liveO _ _ _ = true); first | assumption | (exact liveO_setS (by assumption)) | (exact PtL.live (by assumption)) | (exact PtL.liveA (by assumption) _) | (simp only [go_sem]; done)) | omega | assumption | rfl | (simp only [go_sem]; first | done | omega)) only [go_sem, reduceIte, reduceCtorEq, Nat.reduceAdd, Nat.reduceMul, Nat.reduceSub, Nat.reduceLeDiff, Nat.lt_irrefl, Nat.reduceLT, Nat.reduceEqDiff, Nat.reduceBEq, Int.reduceLE, Int.reduceLT, Int.reduceToNat, w64, eq_self, h.isCell])
 | (with_reducible refine AW_seq (fun K hK => ?_))
 | (with_reducible refine AW_region tyOk ?_)
 | (with_reducible refine AOps_cons (fun K hK => ?_))
 | ((with_reducible refine AOps_nil ?_); try simp only [thenA, blockA, if_true, if_false, reduceIte, Nat.reduceEqDiff, reduceCtorEq])
 | (with_reducible refine AW_block ?_)
 | ((first | (with_reducible refine AW_ret ?_) | (with_reducible refine AW_skip ?_) | (with_reducible refine AW_exit ?_)); try simp only [thenA, blockA, if_true, if_false, reduceIte, Nat.reduceEqDiff, reduceCtorEq])
 | ((with_reducible show AW _ _ (.cond _ _ _) _ _ _); refine AW_cond rfl (fun hg => ?_) (fun hg => ?_) <;> first | (exfalso; simp only [reduceCtorEq] at hg; done) | ((try simp only [Bool.not_eq_true', Bool.not_eq_false', decide_eq_true_eq, decide_eq_false_iff_not] at hg); try (exfalso; omega)))
 | ((with_reducible show _ ∧ _); refine And.intro (fun hg => ?_) (fun hg => ?_) <;> (try simp only [Bool.not_eq_true', Bool.not_eq_false'] at hg) <;> simp only [hg] <;> (try simp only [decide_eq_true_eq, decide_eq_false_iff_not] at hg) <;> (try (exfalso; omega)))
 | ((with_reducible apply FunH_intro); (first | exact toFloat32SS_c _ _ _ _ (by first | assumption | exact RdL.app (by assumption) _ | exact RdL_hj rfl (by simp) | exact RdL_h0 rfl (by simp) | exact RdL_nil | exact RdL_emp) (by first | assumption | exact RdLL.app (by assumption) _) (by first | assumption | omega | (simp; omega) | (simp; done))))
 | (clear hK K)
      | fail)
    all_goals (first | refine EndA_cut hcl (by first | exact Or.inr rfl | exact Or.inl rfl) (by simp only [Try.results7, resA, aresL, go_sem, reduceIte, reduceCtorEq, Nat.reduceAdd, Nat.reduceMul, Nat.reduceSub, Nat.reduceLeDiff, Nat.lt_irrefl, Nat.reduceLT, Nat.reduceEqDiff, Nat.reduceBEq, Int.reduceLE, Int.reduceLT, Int.reduceToNat, w64, eq_self] <;> rfl) rfl ?_ | refine EndA_same (by first | exact Or.inr rfl | exact Or.inl rfl) (by simp only [Try.results7, resA, aresL, go_sem, reduceIte, reduceCtorEq, Nat.reduceAdd, Nat.reduceMul, Nat.reduceSub, Nat.reduceLeDiff, Nat.lt_irrefl, Nat.reduceLT, Nat.reduceEqDiff, Nat.reduceBEq, Int.reduceLE, Int.reduceLT, Int.reduceToNat, w64, eq_self] <;> rfl) ?_)
    all_goals exact ⟨rfl, rfl⟩
theorem markLevels_c {X : Hp} {lo hi A : Nat} {Q : List (Nat × List LV)} (r s : Int) (hA : Lv X lo hi A Q) (hh : hi ≤ X.length) (k : Nat) (n : Nat) (hn : Q.length = n) (hb : n ≤ 1048576) (hk : k + totQ Q ≤ 17592186044416) :
    FunH Try.prog 10 [.agg [.int .i64 r, .int .i64 s, .sl A 0 0 n none], .int .i64 (k : Nat)] X fun r' H' => r' = .int .i64 (k + totQ Q : Nat) ∧ H' = mkH X k Q Q.length := by
  have hm := markFloat32SS_c (hA.app hh [⟨0, false, 27, 3, [.int .i64 r, .int .i64 s, .sl A 0 0 n none]⟩]) k n hn hb hk
  rw [mkH_app hA hh k _ _ (Nat.le_refl _)] at hm
  have hml := mkH_len X k Q Q.length
  (refine FunH_body tyOk Try.func10 rfl (by kernel_rfl) Try.ntmps10 (fun hcl hbd => ?_); simp only [List.length_cons, List.length_nil, Nat.reduceAdd, Nat.reduceSub, List.replicate, List.cons_append, List.nil_append])
  repeat' (first
 | ((with_reducible refine hK _ _ ?_); clear hK K)
 | ((first | (with_reducible show AOp _ _ _ _ _ _ _)); simp (disch := first | ((with_reducible show liveO _ _ _ = true); first | assumption | (exact liveO_setS (by assumption)) | (exact PtL.live (by assumption)) | (exact PtL.liveA (by assumption) _) | (simp only [go_sem]; done)) | omega | assumption | rfl | (simp only [go_sem]; first | done | omega)) only [go_sem, reduceIte, reduceCtorEq, Nat.reduceAdd, Nat.reduceMul, Nat.reduceSub, Nat.reduceLeDiff, Nat.lt_irrefl, Nat.reduceLT, Nat.reduceEqDiff, Nat.reduceBEq, Int.reduceLE, Int.reduceLT, Int.reduceToNat, w64, eq_self])
 | (with_reducible refine AW_seq (fun K hK => ?_))
 | (with_reducible refine AW_region tyOk ?_)
 | (with_reducible refine AOps_cons (fun K hK => ?_))
 | ((with_reducible refine AOps_nil ?_); try simp only [thenA, blockA, if_true, if_false, reduceIte, Nat.reduceEqDiff, reduceCtorEq])
 | (with_reducible refine AW_block ?_)
 | ((first | (with_reducible refine AW_ret ?_) | (with_reducible refine AW_skip ?_) | (with_reducible refine AW_exit ?_)); try simp only [thenA, blockA, if_true, if_false, reduceIte, Nat.reduceEqDiff, reduceCtorEq])
 | ((with_reducible show AW _ _ (.cond _ _ _) _ _ _); refine AW_cond rfl (fun hg => ?_) (fun hg => ?_) <;> first | (exfalso; simp only [reduceCtorEq] at hg; done) | ((try simp only [Bool.not_eq_true', Bool.not_eq_false', decide_eq_true_eq, decide_eq_false_iff_not] at hg); try (exfalso; omega)))
 | ((with_reducible show _ ∧ _); refine And.intro (fun hg => ?_) (fun hg => ?_) <;> (try simp only [Bool.not_eq_true', Bool.not_eq_false'] at hg) <;> simp only [hg] <;> (try simp only [decide_eq_true_eq, decide_eq_false_iff_not] at hg) <;> (try (exfalso; omega)))
 | ((with_reducible apply FunH_intro); (first | exact hm | exact markFloat32SS_c _ _ _ (by first | rfl | assumption | omega | (simp; done)) (by first | assumption | omega | (simp; omega) | (simp; done)) (by first | assumption | omega | (simp; omega) | (simp; done))))
 | (clear hK K)
    | fail)
  refine EndA_cutS (H1 := mkH X k Q Q.length) (mkH_closed hcl k Q _ (Nat.le_refl _)) (by omega) (by first | exact Or.inr rfl | exact Or.inl rfl) (by simp only [Try.results10, resA, aresL, go_sem] <;> rfl) rfl ⟨rfl, rfl⟩
theorem heldLevels_c {X : Hp} {lo hi A : Nat} {Q : List (Nat × List LV)} (r s : Int) (k : Nat) (n : Nat) (hA : Lv X lo hi A (mkQ k Q)) (hh : hi ≤ X.length) (hn : Q.length = n) (hb : n ≤ 1048576) (hk : k + totQ Q ≤ 17592186044416) :
    FunH Try.prog 11 [.agg [.int .i64 r, .int .i64 s, .sl A 0 0 n none], .int .i64 (k : Nat)] X fun r' H' => r' = .int .i64 (k + totQ Q : Nat) ∧ H' = X := by
  have hm := heldFloat32SS_c k n (hA.app hh [⟨0, false, 27, 3, [.int .i64 r, .int .i64 s, .sl A 0 0 n none]⟩]) hn hb hk
  (refine FunH_body tyOk Try.func11 rfl (by kernel_rfl) Try.ntmps11 (fun hcl hbd => ?_); simp only [List.length_cons, List.length_nil, Nat.reduceAdd, Nat.reduceSub, List.replicate, List.cons_append, List.nil_append])
  repeat' (first
 | ((with_reducible refine hK _ _ ?_); clear hK K)
 | ((first | (with_reducible show AOp _ _ _ _ _ _ _)); simp (disch := first | ((with_reducible show liveO _ _ _ = true); first | assumption | (exact liveO_setS (by assumption)) | (exact PtL.live (by assumption)) | (exact PtL.liveA (by assumption) _) | (simp only [go_sem]; done)) | omega | assumption | rfl | (simp only [go_sem]; first | done | omega)) only [go_sem, reduceIte, reduceCtorEq, Nat.reduceAdd, Nat.reduceMul, Nat.reduceSub, Nat.reduceLeDiff, Nat.lt_irrefl, Nat.reduceLT, Nat.reduceEqDiff, Nat.reduceBEq, Int.reduceLE, Int.reduceLT, Int.reduceToNat, w64, eq_self])
 | (with_reducible refine AW_seq (fun K hK => ?_))
 | (with_reducible refine AW_region tyOk ?_)
 | (with_reducible refine AOps_cons (fun K hK => ?_))
 | ((with_reducible refine AOps_nil ?_); try simp only [thenA, blockA, if_true, if_false, reduceIte, Nat.reduceEqDiff, reduceCtorEq])
 | (with_reducible refine AW_block ?_)
 | ((first | (with_reducible refine AW_ret ?_) | (with_reducible refine AW_skip ?_) | (with_reducible refine AW_exit ?_)); try simp only [thenA, blockA, if_true, if_false, reduceIte, Nat.reduceEqDiff, reduceCtorEq])
 | ((with_reducible show AW _ _ (.cond _ _ _) _ _ _); refine AW_cond rfl (fun hg => ?_) (fun hg => ?_) <;> first | (exfalso; simp only [reduceCtorEq] at hg; done) | ((try simp only [Bool.not_eq_true', Bool.not_eq_false', decide_eq_true_eq, decide_eq_false_iff_not] at hg); try (exfalso; omega)))
 | ((with_reducible show _ ∧ _); refine And.intro (fun hg => ?_) (fun hg => ?_) <;> (try simp only [Bool.not_eq_true', Bool.not_eq_false'] at hg) <;> simp only [hg] <;> (try simp only [decide_eq_true_eq, decide_eq_false_iff_not] at hg) <;> (try (exfalso; omega)))
 | ((with_reducible apply FunH_intro); (first | exact hm | exact heldFloat32SS_c _ _ _ (by first | rfl | assumption | omega | (simp; done)) (by first | assumption | omega | (simp; omega) | (simp; done)) (by first | assumption | omega | (simp; omega) | (simp; done))))
 | (clear hK K)
    | fail)
  all_goals try (exfalso; omega)
  all_goals (refine EndA_cut hcl (by first | exact Or.inr rfl | exact Or.inl rfl) (by simp only [Try.results11, resA, aresL, go_sem, reduceIte, reduceCtorEq, Nat.reduceAdd, Nat.reduceMul, Nat.reduceSub, Nat.reduceLeDiff, Nat.lt_irrefl, Nat.reduceLT, Nat.reduceEqDiff, Nat.reduceBEq, Int.reduceLE, Int.reduceLT, Int.reduceToNat, w64, eq_self] <;> rfl) rfl ?_)
  all_goals exact ⟨rfl, rfl⟩
theorem eqLv {X : Hp} {lo hi A lo' hi' A' n : Nat} {Q Q' : List (Nat × List LV)} {xss : List (List (Option Nat))} (r s : Int) (h : Lv X lo hi A Q) (e : Q.map Prod.snd = xss.map fun xs => xs.map (LV.flt .f32)) (h' : Lv X lo' hi' A' Q') (e' : Q'.map Prod.snd = xss.map fun xs => xs.map (LV.flt .f32)) (hn : totL xss ≤ 1048576) (hl : xss.length = n) :
    FunH Try.prog 9 [.agg [.int .i64 r, .int .i64 s, .sl A 0 0 n none], .agg [.int .i64 r, .int .i64 s, .sl A' 0 0 n none]] X fun r H' => r = .bool true ∧ H' = X := by
  subst hl
  have h1 := h.rd
  have h2 := h'.rd
  rw [(totQ_of e).1] at h1
  rw [(totQ_of e').1] at h2
  exact eqLevels_c r s _ _ _ _ xss X h1 (h.rdl e) h2 (h'.rdl e') hn
theorem pre_of {H X : Hp} (hl : H.length ≤ X.length) (h : ∀ i, i < H.length → X[i]? = H[i]?) : ∃ K, X = H ++ K := by
  refine ⟨X.drop H.length, ?_⟩
  conv => lhs; rw [← List.take_append_drop H.length X]
  congr 1
  refine List.ext_getElem? fun i => ?_
  rcases Nat.lt_or_ge i H.length with h1 | h1
  · rw [List.getElem?_take_of_lt h1, h i h1]
  · rw [List.getElem?_eq_none (by rw [List.length_take]; omega), List.getElem?_eq_none h1]
end Go.Proofs.Ytonlgkecphijoaa
