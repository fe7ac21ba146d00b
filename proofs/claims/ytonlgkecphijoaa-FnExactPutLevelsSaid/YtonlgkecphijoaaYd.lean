/- PutLevels in the abstract machine: the program's side. -/
import Derived.Test.YtonlgkecphijoaaYc
import Derived.Test.YtonlgkecphijoaaNu
namespace Go.Proofs.Ytonlgkecphijoaa
open Go.RowKit
set_option linter.unusedSimpArgs false
set_option linter.unusedVariables false
set_option maxRecDepth 100000

/-- The rows of a copy. -/
def cpR (b : Nat) (ls : List (List Nat)) : List (Nat × Nat × List Nat) := (List.range ls.length).map fun k => (b + k, 0, ix ls k)
theorem cpR_len (b : Nat) (ls : List (List Nat)) : (cpR b ls).length = ls.length := by simp [cpR]
theorem cpR_ix (b : Nat) (ls : List (List Nat)) (k : Nat) (h : k < ls.length) : ix (cpR b ls) k = (b + k, 0, ix ls k) := by
  rw [ix_eq _ _ (by rw [cpR_len]; exact h)]; simp [cpR]
theorem wR_cpR (b : Nat) (ls : List (List Nat)) : wR (cpR b ls) = ls := by
  refine List.ext_getElem (by rw [wR_len, cpR_len]) fun k h1 h2 => ?_
  have := wR_ix (P := cpR b ls) (k := k) (by rw [cpR_len]; exact h2)
  rw [cpR_ix _ _ _ h2, ix_eq _ _ h1, ix_eq _ _ h2] at this
  exact this
theorem rowsL_cpR (b : Nat) (ls : List (List Nat)) : rowsL b (ls.map fun ws => ws.map some) = (cpR b ls).map cR := by
  unfold rowsL cpR cR
  rw [List.length_map, List.map_map]
  refine List.map_congr_left fun k hk => ?_
  rw [ix_mapA _ (List.mem_range.1 hk)]
  simp
theorem LS.copy {H : Hp} {a : Nat} {G : Hp} {ls : List (List Nat)} (h0 : G[a]? = some ⟨0, false, 41, 1, rowsL (H.length + (a + 1)) (ls.map fun ws => ws.map some)⟩) (hr : ∀ k, k < ls.length → G[a + 1 + k]? = some (rowF ((ix ls k).map some))) :
    LS H (H ++ G) (H.length + a) 0 (cpR (H.length + (a + 1)) ls) := by
  refine ⟨⟨G, rfl⟩, by rw [hp_getj, h0, rowsL_cpR], by omega, fun k hk => ?_, fun i k hi hk hik => ?_⟩
  · rw [cpR_len] at hk
    rw [cpR_ix _ _ _ hk]
    refine ⟨?_, by simp only; omega, by simp only; omega⟩
    show (H ++ G)[H.length + (a + 1) + k]? = _
    rw [show H.length + (a + 1) + k = H.length + (a + 1 + k) by omega, hp_getj, hr k hk]
    unfold rowF oR
    rw [Fw_map]
  · rw [cpR_len] at hi hk
    rw [cpR_ix _ _ _ hi, cpR_ix _ _ _ hk]
    simp only; omega
theorem words_L {xss : List (List (Option Nat))} (h : ∀ xs ∈ xss, xs.all finO = true) : ∃ ls : List (List Nat), xss = ls.map fun ws => ws.map some := by
  induction xss with
  | nil => exact ⟨[], rfl⟩
  | cons xs xss ih =>
    obtain ⟨ls, e⟩ := ih fun y hy => h y (List.mem_cons_of_mem _ hy)
    obtain ⟨ws, e2⟩ := words_of (h xs (List.mem_cons_self ..))
    exact ⟨ws :: ls, by rw [e, e2]; rfl⟩
/-- A levels' rows, brought in order behind the caller's heap. -/
def jsL (n A : Nat) (P : List (Nat × Nat × List Nat)) : List (Option Nat) := some (A - n) :: P.map fun p => some (p.1 - n)
def sxs (P : List (Nat × Nat × List Nat)) : List (List (Option Nat)) := (wR P).map fun ws => ws.map some
theorem sxs_len (P : List (Nat × Nat × List Nat)) : (sxs P).length = P.length := by unfold sxs; rw [List.length_map, wR_len]
theorem sxs_ix {P : List (Nat × Nat × List Nat)} {k : Nat} (h : k < P.length) : ix (sxs P) k = (ix P k).2.2.map some := by
  unfold sxs; rw [ix_mapA _ (by rw [wR_len]; exact h), wR_ix h]
theorem LS.cut {H X : Hp} {A v : Nat} {P : List (Nat × Nat × List Nat)} (h : LS H X A v P) :
    ∃ K, X = H ++ K ∧ ((jsL H.length A P).filterMap id).Nodup ∧ All2 (RowOk H.length K (jsL H.length A P)) (jsL H.length A P) (⟨0, false, 41, 1, rowsL (H.length + 1) (sxs P)⟩ :: (sxs P).map rowF) ∧ TdB H.length K (jsL H.length A P) (.sl A v 0 P.length none) (.sl H.length 0 0 P.length none) := by
  obtain ⟨⟨K, rfl⟩, h2, h3, h4, h5⟩ := h
  have hg : ∀ {i : Nat}, H.length ≤ i → (H ++ K)[i]? = K[i - H.length]? := fun hi => by rw [List.getElem?_append_right hi]
  rw [hg h3] at h2
  have h4' : ∀ k, k < P.length → K[(ix P k).1 - H.length]? = some (oR (ix P k)) := fun k hk => by have := (h4 k hk).1; rw [hg (h4 k hk).2.1] at this; exact this
  have hj : ∀ k, k < P.length → (jsL H.length A P)[1 + k]? = some (some ((ix P k).1 - H.length)) := fun k hk => by
    unfold jsL
    rw [Nat.add_comm, List.getElem?_cons_succ, List.getElem?_map, ix_get? _ _ hk]; rfl
  refine ⟨K, rfl, ?_, ⟨?_, ?_⟩, ?_⟩
  · have e : (jsL H.length A P).filterMap id = (A - H.length) :: P.map fun p => p.1 - H.length := by
      unfold jsL
      rw [List.filterMap_cons]
      simp only [id]
      congr 1
      rw [List.filterMap_map]
      exact List.filterMap_eq_map (f := fun p : Nat × Nat × List Nat => p.1 - H.length) ▸ rfl
    rw [e, List.nodup_cons]
    refine ⟨fun hm => ?_, ?_⟩
    · obtain ⟨p, hp, e⟩ := List.mem_map.1 hm
      obtain ⟨k, hk, e2⟩ := List.getElem_of_mem hp
      have := h4 k hk
      rw [ix_eq _ _ hk, e2] at this
      omega
    · refine List.pairwise_iff_getElem.2 fun i k hi hk hik => ?_
      rw [List.length_map] at hi hk
      rw [List.getElem_map, List.getElem_map]
      have h6 := h5 i k hi hk (by omega)
      have h7 := h4 i hi
      have h8 := h4 k hk
      rw [ix_eq _ _ hi] at h6 h7
      rw [ix_eq _ _ hk] at h6 h8
      omega
  · refine ⟨rfl, rfl, v, P.map cR, h2, by simp only; rw [rowsL_len, List.length_map, sxs_len]; exact Nat.le_refl _, ?_⟩
    simp only
    rw [rowsL_len, sxs_len, List.take_of_length_le (by rw [List.length_map]; exact Nat.le_refl _)]
    refine All2.of_get (by rw [List.length_map, rowsL_len, sxs_len]) fun i a b ha hb => ?_
    have hi : i < P.length := by have := lt_of_getF ha; rwa [List.length_map] at this
    rw [List.getElem?_map, ix_get? _ _ hi] at ha
    rw [ix_get? _ _ (by rw [rowsL_len, sxs_len]; exact hi), rowsL_ix _ _ _ (by rw [sxs_len]; exact hi), sxs_ix hi] at hb
    cases ha; cases hb
    have := TdB.own (n := H.length) (K := K) (js := jsL H.length A P) (1 + i) ((ix P i).1 - H.length) (ix P i).2.1 0 (ix P i).2.2.length none (hj i hi) _ (h4' i hi) rfl
    rw [show H.length + ((ix P i).1 - H.length) = (ix P i).1 by have := (h4 i hi).2.1; omega, show H.length + (1 + i) = H.length + 1 + i by omega] at this
    rw [List.length_map]
    exact this
  · refine All2.of_get (by rw [List.length_map, List.length_map, sxs_len]) fun i a b ha hb => ?_
    have hi : i < P.length := by have := lt_of_getF ha; rwa [List.length_map] at this
    rw [List.getElem?_map, ix_get? _ _ hi] at ha
    rw [List.getElem?_map, ix_get? _ _ (by rw [sxs_len]; exact hi), sxs_ix hi] at hb
    cases ha; cases hb
    exact RowOk.eq (h4' i hi) (by rw [← Fw_map]) (scal_flt _ _)
  · have := TdB.own (n := H.length) (K := K) (js := jsL H.length A P) 0 (A - H.length) v 0 P.length none rfl _ h2 rfl
    rw [show H.length + (A - H.length) = A by omega] at this
    exact this
theorem LS.weak {H G X : Hp} {A v : Nat} {P : List (Nat × Nat × List Nat)} (h : LS (H ++ G) X A v P) : LS H X A v P := by
  obtain ⟨⟨K, e⟩, h2, h3, h4, h5⟩ := h
  rw [List.length_append] at h3
  exact ⟨⟨G ++ K, by rw [e, List.append_assoc]⟩, h2, by omega, fun k hk => ⟨(h4 k hk).1, by have := (h4 k hk).2.1; rw [List.length_append] at this; omega, (h4 k hk).2.2⟩, h5⟩
theorem totW_le {ls : List (List Nat)} (h : ∀ ws ∈ ls, ws.length ≤ 64) : totW ls ≤ 64 * ls.length := by
  induction ls with
  | nil => exact Nat.le_refl _
  | cons a ls ih =>
    have h1 := h a (List.mem_cons_self ..)
    have h2 := ih fun ws hw => h ws (List.mem_cons_of_mem _ hw)
    show a.length + totW ls ≤ 64 * (ls.length + 1)
    omega
/-- What PutLevels gives. -/
def unw (xss : List (List (Option Nat))) : List (List Nat) := xss.map fun xs => xs.map fun x => x.getD 0
theorem unw_map (ls : List (List Nat)) : unw (ls.map fun ws => ws.map some) = ls := by
  unfold unw
  rw [List.map_map]
  conv => rhs; rw [← List.map_id ls]
  refine List.map_congr_left fun ws _ => ?_
  simp only [Function.comp, List.map_map, id]
  conv => rhs; rw [← List.map_id ws]
  exact List.map_congr_left fun w _ => rfl
def plN (ls : List (List Nat)) : Nat := 2 * totW ls + ls.length
def plS (r s : Int) (ls : List (List Nat)) : List (List Nat) × Int := stl (r / 2).toNat (plN ls) 0 ls s
def putL (ls : List (List Nat)) (w : Nat) : List (List Nat) := ls.set 0 (ix ls 0 ++ [w])
def stOk (r : Int) (R : List (List Nat) × Int) : Bool := levB r R.2 (R.1.map fun ws => ws.map some)
def plOk (r s : Int) (xss : List (List (Option Nat))) (x : Option Nat) : Bool := levB r s xss && finO x && stOk r (plS r s (putL (unw xss) (x.getD 0)))
def stX (ok : Bool) (R : List (List Nat) × Int) : List (List (Option Nat)) := if ok then R.1.map fun ws => ws.map some else []
def plQ (H : Hp) (r : Int) (ok : Bool) (R : List (List Nat) × Int) (r' : LV) (H' : Hp) : Prop :=
  r' = .tup [.agg [.int .i64 (if ok then r else 0), .int .i64 (if ok then R.2 else 0), .sl H.length 0 0 (stX ok R).length none], .bool ok] ∧
  H' = H ++ (⟨0, false, 41, 1, rowsL (H.length + 1) (stX ok R)⟩ :: (stX ok R).map rowF)
set_option maxHeartbeats 8000000 in
theorem iPutLevels_c (r s : Int) (v : LV) (L : List LV) (xss : List (List (Option Nat))) (x : Option Nat) (Hb : Hp) (h : RdL Hb v L) (hL : RdLL Hb L xss) (hn : totL xss ≤ 1048576) :
    FunH Try.prog 8 [.agg [.int .i64 r, .int .i64 s, v], .flt .f32 x] Hb (plQ Hb r (plOk r s xss x) (plS r s (putL (unw xss) (x.getD 0)))) := by
  have hv := fun K => iValidLevels_c r s v L xss (Hb ++ K) (h.app K) (hL.app K) hn
  cases e1 : levB r s xss
  · have e : plOk r s xss x = false := by unfold plOk; rw [e1]; rfl
    rw [e]
    unfold plQ stX
    simp only [Bool.false_eq_true, if_false, reduceIte]
    rw [e1] at hv
    (refine FunH_body tyOk Try.func8 rfl (by kernel_rfl) Try.ntmps8 (fun hcl hbd => ?_); simp only [List.length_cons, List.length_nil, Nat.reduceAdd, Nat.reduceSub, List.replicate, List.cons_append, List.nil_append])
    repeat' (first
      | ((with_reducible refine hK _ _ ?_); clear hK K)
      | ((first | (with_reducible show AOp _ _ _ _ _ _ _)); simp (disch := first | ((with_reducible show liveO _ _ _ = true); first | assumption | (exact lvB) | (exact lvA) | (exact lvBA _) | (exact lvAA _) | (exact bSl _ _) | (exact aSl _ _) | (exact liveO_setS (by assumption)) | (exact PtL.live (by assumption)) | (exact PtL.liveA (by assumption) _) | (simp only [go_sem]; done)) | omega | assumption | rfl | (simp only [go_sem]; first | done | omega)) only [go_sem, reduceIte, reduceCtorEq, Nat.reduceAdd, Nat.reduceMul, Nat.reduceSub, Nat.reduceLeDiff, Nat.lt_irrefl, Nat.reduceLT, Nat.reduceEqDiff, Nat.reduceBEq, Int.reduceLE, Int.reduceLT, Int.reduceToNat, w64, eq_self, h.isCell])
      | (with_reducible refine AW_seq (fun K hK => ?_))
      | (with_reducible refine AW_region tyOk ?_)
      | (with_reducible refine AOps_cons (fun K hK => ?_))
      | ((with_reducible refine AOps_nil ?_); try simp only [thenA, blockA, if_true, if_false, reduceIte, Nat.reduceEqDiff, reduceCtorEq])
      | (with_reducible refine AW_block ?_)
      | ((first | (with_reducible refine AW_ret ?_) | (with_reducible refine AW_skip ?_) | (with_reducible refine AW_exit ?_)); try simp only [thenA, blockA, if_true, if_false, reduceIte, Nat.reduceEqDiff, reduceCtorEq])
      | ((with_reducible show AW _ _ (.cond _ _ _) _ _ _); refine AW_cond rfl (fun hg => ?_) (fun hg => ?_) <;> first | (exfalso; simp only [reduceCtorEq] at hg; done) | ((try simp only [Bool.not_eq_true', Bool.not_eq_false', decide_eq_true_eq, decide_eq_false_iff_not] at hg); try (exfalso; omega)))
      | ((with_reducible show _ ∧ _); refine And.intro (fun hg => ?_) (fun hg => ?_) <;> (try simp only [Bool.not_eq_true', Bool.not_eq_false'] at hg) <;> simp only [hg] <;> (try simp only [decide_eq_true_eq, decide_eq_false_iff_not] at hg) <;> (try (exfalso; omega)))
      | ((with_reducible apply FunH_intro); (first | exact hv _ | exact iValidLevels_c _ _ _ _ _ _ (by first | assumption | exact RdL.app (by assumption) _ | exact RdL_hj rfl (by simp) | exact RdL_h0 rfl (by simp) | exact RdL_nil | exact RdL_emp) (by first | assumption | exact RdLL.app (by assumption) _) (by first | assumption | omega | (simp; omega) | (simp; done)) | exact IsFinite_c _ _ | exact copyLevels_c _ _ _ _ _ _ (by first | assumption | exact RdL.app (by assumption) _ | exact RdL_hj rfl (by simp) | exact RdL_h0 rfl (by simp) | exact RdL_nil | exact RdL_emp) (by first | assumption | exact RdLL.app (by assumption) _) (by first | assumption | omega | (simp; omega) | (simp; done)) | exact settle_c _ _ _ _ _ _ _ _ _ (by first | assumption | omega | (simp; omega) | (simp; done)) (by first | assumption | omega | (simp; omega) | (simp; done)) (by first | assumption | omega | (simp; omega) | (simp; done)) (by first | assumption | omega | (simp; omega) | (simp; done))))
      | (clear hK K)
      | fail)
    refine EndA_rows [none] hcl (by first | exact Or.inr rfl | exact Or.inl rfl) (by simp only [Try.results8, resA, aresL, go_sem] <;> rfl) (by simp) ?_ ?_ ⟨rfl, rfl⟩
    · exact ⟨RowOk.none, trivial⟩
    · exact TdT.tup ⟨TdL.agg ⟨TdB.old _ trivial rfl, TdB.old _ trivial rfl, TdB.virt 0 rfl, trivial⟩, TdL.cell (TdB.old _ trivial rfl), trivial⟩
  rw [e1] at hv
  cases e2 : finO x
  · have e : plOk r s xss x = false := by unfold plOk; rw [e1, e2]; rfl
    rw [e]
    unfold plQ stX
    simp only [Bool.false_eq_true, if_false, reduceIte]
    (refine FunH_body tyOk Try.func8 rfl (by kernel_rfl) Try.ntmps8 (fun hcl hbd => ?_); simp only [List.length_cons, List.length_nil, Nat.reduceAdd, Nat.reduceSub, List.replicate, List.cons_append, List.nil_append])
    repeat' (first
      | ((with_reducible refine hK _ _ ?_); clear hK K)
      | ((first | (with_reducible show AOp _ _ _ _ _ _ _)); simp (disch := first | ((with_reducible show liveO _ _ _ = true); first | assumption | (exact lvB) | (exact lvA) | (exact lvBA _) | (exact lvAA _) | (exact bSl _ _) | (exact aSl _ _) | (exact liveO_setS (by assumption)) | (exact PtL.live (by assumption)) | (exact PtL.liveA (by assumption) _) | (simp only [go_sem]; done)) | omega | assumption | rfl | (simp only [go_sem]; first | done | omega)) only [go_sem, reduceIte, reduceCtorEq, Nat.reduceAdd, Nat.reduceMul, Nat.reduceSub, Nat.reduceLeDiff, Nat.lt_irrefl, Nat.reduceLT, Nat.reduceEqDiff, Nat.reduceBEq, Int.reduceLE, Int.reduceLT, Int.reduceToNat, w64, eq_self, h.isCell, e2])
      | (with_reducible refine AW_seq (fun K hK => ?_))
      | (with_reducible refine AW_region tyOk ?_)
      | (with_reducible refine AOps_cons (fun K hK => ?_))
      | ((with_reducible refine AOps_nil ?_); try simp only [thenA, blockA, if_true, if_false, reduceIte, Nat.reduceEqDiff, reduceCtorEq])
      | (with_reducible refine AW_block ?_)
      | ((first | (with_reducible refine AW_ret ?_) | (with_reducible refine AW_skip ?_) | (with_reducible refine AW_exit ?_)); try simp only [thenA, blockA, if_true, if_false, reduceIte, Nat.reduceEqDiff, reduceCtorEq])
      | ((with_reducible show AW _ _ (.cond _ _ _) _ _ _); refine AW_cond rfl (fun hg => ?_) (fun hg => ?_) <;> first | (exfalso; simp only [reduceCtorEq] at hg; done) | ((try simp only [Bool.not_eq_true', Bool.not_eq_false', decide_eq_true_eq, decide_eq_false_iff_not] at hg); try (exfalso; omega)))
      | ((with_reducible show _ ∧ _); refine And.intro (fun hg => ?_) (fun hg => ?_) <;> (try simp only [Bool.not_eq_true', Bool.not_eq_false'] at hg) <;> simp only [hg] <;> (try simp only [decide_eq_true_eq, decide_eq_false_iff_not] at hg) <;> (try (exfalso; omega)))
      | ((with_reducible apply FunH_intro); (first | exact hv _ | exact iValidLevels_c _ _ _ _ _ _ (by first | assumption | exact RdL.app (by assumption) _ | exact RdL_hj rfl (by simp) | exact RdL_h0 rfl (by simp) | exact RdL_nil | exact RdL_emp) (by first | assumption | exact RdLL.app (by assumption) _) (by first | assumption | omega | (simp; omega) | (simp; done)) | exact IsFinite_c _ _ | exact copyLevels_c _ _ _ _ _ _ (by first | assumption | exact RdL.app (by assumption) _ | exact RdL_hj rfl (by simp) | exact RdL_h0 rfl (by simp) | exact RdL_nil | exact RdL_emp) (by first | assumption | exact RdLL.app (by assumption) _) (by first | assumption | omega | (simp; omega) | (simp; done)) | exact settle_c _ _ _ _ _ _ _ _ _ (by first | assumption | omega | (simp; omega) | (simp; done)) (by first | assumption | omega | (simp; omega) | (simp; done)) (by first | assumption | omega | (simp; omega) | (simp; done)) (by first | assumption | omega | (simp; omega) | (simp; done))))
      | (clear hK K)
      | fail)
    refine EndA_rows [none] hcl (by first | exact Or.inr rfl | exact Or.inl rfl) (by simp only [Try.results8, resA, aresL, go_sem] <;> rfl) (by simp) ?_ ?_ ⟨rfl, rfl⟩
    · exact ⟨RowOk.none, trivial⟩
    · exact TdT.tup ⟨TdL.agg ⟨TdB.old _ trivial rfl, TdB.old _ trivial rfl, TdB.virt 0 rfl, trivial⟩, TdL.cell (TdB.old _ trivial rfl), trivial⟩
  obtain ⟨ls, rfl⟩ : ∃ ls : List (List Nat), xss = ls.map fun ws => ws.map some := words_L (by
    intro xs hx
    unfold levB at e1
    simp only [Bool.and_eq_true] at e1
    have := List.all_eq_true.1 e1.2 xs hx
    unfold levP at this
    simp only [Bool.and_eq_true] at this
    exact this.2)
  obtain ⟨w, rfl⟩ : ∃ w, x = some w := by cases x with
    | none => cases e2
    | some w => exact ⟨w, rfl⟩
  have eo : plOk r s (ls.map fun ws => ws.map some) (some w) = stOk r (plS r s (putL ls w)) := by
    unfold plOk; rw [e1, e2, unw_map]; rfl
  rw [eo, unw_map]
  have eg : (some w : Option Nat).getD 0 = w := rfl
  rw [eg]
  have hcp := fun K => copyLevels_c r s v L _ (Hb ++ K) (h.app K) (hL.app K) hn
  simp only [List.length_map, List.length_append] at hcp
  have hrl : (List.map rowF (List.map (fun ws : List Nat => ws.map some) ls)).length = ls.length := by rw [List.length_map, List.length_map]
  have e3 := e1
  unfold levB at e3
  simp only [Bool.and_eq_true, decide_eq_true_eq, beq_iff_eq, inB, List.length_map] at e3
  obtain ⟨⟨⟨⟨⟨⟨hr2, hr64⟩, hrm⟩, hs0, hs1⟩, hl1⟩, hl16⟩, -⟩ := e3
  obtain ⟨q, rfl⟩ : ∃ q : Nat, r = ((2 * q : Nat) : Int) := ⟨(r / 2).toNat, by
    have h1 := Int.tmod_eq_emod_of_nonneg (a := r) (b := 2) (by omega)
    omega⟩
  have hq2 : (((2 * q : Nat) : Int) / 2).toNat = q := by omega
  have hR : stl q (plN (putL ls w)) 0 (putL ls w) s = plS (2 * q : Nat) s (putL ls w) := by unfold plS; rw [hq2]
  obtain ⟨R, hRe⟩ : ∃ R, plS (2 * q : Nat) s (putL ls w) = R := ⟨_, rfl⟩
  rw [hRe] at hR eo ⊢
  have htw : totW ls ≤ 64 * ls.length := by
    refine totW_le fun ws hws => ?_
    unfold levB at e1
    simp only [Bool.and_eq_true] at e1
    have := List.all_eq_true.1 e1.2 _ (List.mem_map_of_mem hws)
    unfold levP at this
    simp only [Bool.and_eq_true, decide_eq_true_eq, List.length_map] at this
    omega
  (refine FunH_body tyOk Try.func8 rfl (by kernel_rfl) Try.ntmps8 (fun hcl hbd => ?_); simp only [List.length_cons, List.length_nil, Nat.reduceAdd, Nat.reduceSub, List.replicate, List.cons_append, List.nil_append])
  repeat' (first
    | ((with_reducible refine hK _ _ ?_); clear hK K)
    | ((first | (with_reducible show AOp _ _ _ _ _ _ _)); simp (disch := first | ((with_reducible show liveO _ _ _ = true); first | assumption | (exact lvB) | (exact lvA) | (exact lvBA _) | (exact lvAA _) | (exact bSl _ _) | (exact aSl _ _) | (exact liveO_setS (by assumption)) | (exact PtL.live (by assumption)) | (exact PtL.liveA (by assumption) _) | (simp only [go_sem]; done)) | omega | assumption | rfl | (simp only [go_sem]; first | done | omega)) only [go_sem, reduceIte, reduceCtorEq, Nat.reduceAdd, Nat.reduceMul, Nat.reduceSub, Nat.reduceLeDiff, Nat.lt_irrefl, Nat.reduceLT, Nat.reduceEqDiff, Nat.reduceBEq, Int.reduceLE, Int.reduceLT, Int.reduceToNat, w64, eq_self, h.isCell, e2, hput_l0 hrl])
    | ((with_reducible refine AW_seqN [4] ?_ (fun K hK => ?_)); (exact rfl))
    | (with_reducible refine AW_region tyOk ?_)
    | (with_reducible refine AOps_cons (fun K hK => ?_))
    | ((with_reducible refine AOps_nil ?_); try simp only [thenA, blockA, if_true, if_false, reduceIte, Nat.reduceEqDiff, reduceCtorEq])
    | (with_reducible refine AW_block ?_)
    | ((first | (with_reducible refine AW_ret ?_) | (with_reducible refine AW_skip ?_) | (with_reducible refine AW_exit ?_)); try simp only [thenA, blockA, if_true, if_false, reduceIte, Nat.reduceEqDiff, reduceCtorEq])
    | ((with_reducible show AW _ _ (.cond _ _ _) _ _ _); refine AW_cond rfl (fun hg => ?_) (fun hg => ?_) <;> first | (exfalso; simp only [reduceCtorEq] at hg; done) | ((try simp only [Bool.not_eq_true', Bool.not_eq_false', decide_eq_true_eq, decide_eq_false_iff_not] at hg); try (exfalso; omega)))
    | ((with_reducible show _ ∧ _); refine And.intro (fun hg => ?_) (fun hg => ?_) <;> (try simp only [Bool.not_eq_true', Bool.not_eq_false'] at hg) <;> simp only [hg] <;> (try simp only [decide_eq_true_eq, decide_eq_false_iff_not] at hg) <;> (try (exfalso; omega)))
    | ((with_reducible apply FunH_intro); (first | exact hv _ | exact hcp _ | exact iValidLevels_c _ _ _ _ _ _ (by first | assumption | exact RdL.app (by assumption) _ | exact RdL_hj rfl (by simp) | exact RdL_h0 rfl (by simp) | exact RdL_nil | exact RdL_emp) (by first | assumption | exact RdLL.app (by assumption) _) (by first | assumption | omega | (simp; omega) | (simp; done)) | exact IsFinite_c _ _ | exact copyLevels_c _ _ _ _ _ _ (by first | assumption | exact RdL.app (by assumption) _ | exact RdL_hj rfl (by simp) | exact RdL_h0 rfl (by simp) | exact RdL_nil | exact RdL_emp) (by first | assumption | exact RdLL.app (by assumption) _) (by first | assumption | omega | (simp; omega) | (simp; done)) | exact settle_c _ _ _ _ _ _ _ _ _ (by first | assumption | omega | (simp; omega) | (simp; done)) (by first | assumption | omega | (simp; omega) | (simp; done)) (by first | assumption | omega | (simp; omega) | (simp; done)) (by first | assumption | omega | (simp; omega) | (simp; done))))
    | (clear hK K)
    | fail)
  have hLS := LS.copy (H := Hb ++ [⟨0, false, 27, 3, [.int .i64 (2 * q : Nat), .int .i64 s, v]⟩, rsL]) (a := 2) (ls := ls) (G := bxL (2 * q : Nat) s (Hb.length + 4) 0 ls.length :: bxL (2 * q : Nat) s (Hb.length + 4) 0 ls.length :: ⟨0, false, 41, 1, rowsL (Hb.length + 5) (ls.map fun ws => ws.map some)⟩ :: ((ls.map fun ws => ws.map some).map rowF ++ [bxL (2 * q : Nat) s (Hb.length + 4) 0 ls.length])) (by simp) (fun k hk => by
    rw [show 2 + 1 + k = k + 1 + 1 + 1 by omega]
    simp only [List.getElem?_cons_succ]
    rw [List.getElem?_append_left (by rw [hrl]; exact hk), List.getElem?_map, List.getElem?_map, ix_get? _ _ hk]; rfl)
  simp only [List.length_append, List.length_cons, List.length_nil, Nat.zero_add, Nat.add_assoc, Nat.reduceAdd, List.append_assoc, List.cons_append, List.nil_append] at hLS
  obtain ⟨H, hH⟩ : ∃ H, Hb ++ ((⟨0, false, 27, 3, [.int .i64 (2 * q : Nat), .int .i64 s, v]⟩ : AO) :: rsL :: bxL (2 * q : Nat) s (Hb.length + 4) 0 ls.length :: bxL (2 * q : Nat) s (Hb.length + 4) 0 ls.length :: ⟨0, false, 41, 1, rowsL (Hb.length + 5) (ls.map fun ws => ws.map some)⟩ :: ((ls.map fun ws => ws.map some).map rowF ++ [bxL (2 * q : Nat) s (Hb.length + 4) 0 ls.length])) = H := ⟨_, rfl⟩
  have hb0 : H[Hb.length + (ls.length + 5)]? = some (bxL (2 * q : Nat) s (Hb.length + 4) 0 ls.length) := by
    rw [← hH, hp_getj]
    simp only [List.getElem?_cons_succ]
    rw [List.getElem?_append_right (by rw [hrl]; exact Nat.le_refl _), hrl, Nat.sub_self]; rfl
  simp only [bxL, rsL] at hLS hH hb0
  rw [hH] at hLS ⊢
  have hP0 := cpR_ix (Hb.length + 5) ls 0 hl1
  have hPl := cpR_len (Hb.length + 5) ls
  have hPw := wR_cpR (Hb.length + 5) ls
  obtain ⟨P, hP⟩ : ∃ P, cpR (Hb.length + 5) ls = P := ⟨_, rfl⟩
  rw [hP] at hLS hP0 hPl hPw
  obtain ⟨A, hA⟩ : ∃ A, Hb.length + 4 = A := ⟨_, rfl⟩
  obtain ⟨B, hB⟩ : ∃ B, Hb.length + (ls.length + 5) = B := ⟨_, rfl⟩
  obtain ⟨i1, hi1⟩ : ∃ i1, Hb.length + 5 + 0 = i1 := ⟨_, rfl⟩
  obtain ⟨w0, hw0⟩ : ∃ w0, ix ls 0 = w0 := ⟨_, rfl⟩
  rw [hi1, hw0] at hP0
  simp only [hA, hB] at hLS hb0 ⊢
  have nAB : A ≠ B := by omega
  have n1A : i1 ≠ A := by omega
  have n1B : i1 ≠ B := by omega
  have hg3 : 0 < P.length := by omega
  have hoA := hLS.out
  have o1 : H[i1]? = some ⟨0, false, 25, 1, w0.map Fw⟩ := by have := (hLS.row 0 hg3).1; rw [hP0] at this; exact this
  have hcell : (P.map cR)[0]? = some (.sl i1 0 0 w0.length none) := by rw [List.getElem?_map, ix_get? _ _ hg3, hP0]; rfl
  have hwn : w0.length ≤ 1048576 := by
    have h1 := totL_w ls
    have h2 := totW_at hl1
    rw [hw0] at h2
    omega
  have o1A : ∀ L, (H ++ L)[i1]? = some ⟨0, false, 25, 1, w0.map Fw⟩ := at_app o1
  have lvB : liveO H B 0 = true := liveO_at hb0
  have lvA : liveO H A 0 = true := liveO_at hoA
  have lvBA : ∀ L, liveO (H ++ L) B 0 = true := fun L => liveO_at (at_app hb0 L)
  have lvAA : ∀ L, liveO (H ++ L) A 0 = true := fun L => liveO_at (at_app hoA L)
  have gB : ∀ j, hget H B 0 j = ([.int .i64 (2 * q : Nat), .int .i64 s, .sl A 0 0 ls.length none] : List LV)[j]? := fun j => hget_at hb0
  have gBA : ∀ L j, hget (H ++ L) B 0 j = ([.int .i64 (2 * q : Nat), .int .i64 s, .sl A 0 0 ls.length none] : List LV)[j]? := fun L j => hget_at (at_app hb0 L)
  have gA : ∀ j, hget H A 0 j = (P.map cR)[j]? := fun j => hget_at hoA
  have gAA : ∀ L j, hget (H ++ L) A 0 j = (P.map cR)[j]? := fun L j => hget_at (at_app hoA L)
  have bS : ∀ (o : AO) (L : Hp), ((H ++ L).set i1 o)[B]? = some ⟨0, false, 27, 3, [.int .i64 (2 * q : Nat), .int .i64 s, .sl A 0 0 ls.length none]⟩ := fun o L => by rw [List.getElem?_set_ne n1B]; exact at_app hb0 L
  have aS : ∀ (o : AO) (L : Hp), ((H ++ L).set i1 o)[A]? = some ⟨0, false, 41, 1, P.map cR⟩ := fun o L => by rw [List.getElem?_set_ne n1A]; exact at_app hoA L
  have bSl : ∀ (o : AO) (L : Hp), liveO ((H ++ L).set i1 o) B 0 = true := fun o L => liveO_at (bS o L)
  have aSl : ∀ (o : AO) (L : Hp), liveO ((H ++ L).set i1 o) A 0 = true := fun o L => liveO_at (aS o L)
  have bSg : ∀ (o : AO) (L : Hp) (j : Nat), hget ((H ++ L).set i1 o) B 0 j = ([.int .i64 (2 * q : Nat), .int .i64 s, .sl A 0 0 ls.length none] : List LV)[j]? := fun o L j => hget_at (bS o L)
  have aSp : ∀ (o : AO) (L : Hp) (x : LV), hput ((H ++ L).set i1 o) A 0 0 [x] = some (((H ++ L).set i1 o).set A ⟨0, false, 41, 1, (P.map cR).set 0 x⟩) := fun o L x => hputA_at (aS o L) (by simp; omega)
  have hwc : (w0.map Fw).length = w0.length := List.length_map ..
  have hwa : (w0.map Fw).all LV.isCell = true := by rw [List.all_eq_true]; intro x hx; obtain ⟨y, _, rfl⟩ := List.mem_map.1 hx; rfl
  have bS3 : ∀ (o o2 : AO) (L : Hp), hgets (((H ++ L).set i1 o).set A o2) B 0 0 3 = some [.int .i64 (2 * q : Nat), .int .i64 s, .sl A 0 0 ls.length none] := fun o o2 L => by
    have h1 : (((H ++ L).set i1 o).set A o2)[B]? = _ := (List.getElem?_set_ne nAB).trans (bS o L)
    simp [hgets, h1]
  repeat' (first
    | ((with_reducible refine hK _ _ ?_); clear hK K)
    | ((with_reducible refine hK _ ?_); clear hK K; try simp only [])
    | ((with_reducible refine hK _ _ ?_ ?_); (first | exact Or.inl rfl | (with_reducible exact Or.inr id) | exact Or.inr (fun _ => by (first | exact ⟨_, by rw [hp_setj, List.append_assoc]; rfl⟩ | exact ⟨_, by rw [List.append_assoc]; rfl⟩ | exact ⟨_, rfl⟩ | exact ⟨_, by rw [List.append_assoc]; rfl⟩ | exact ⟨_, by simp only [List.append_assoc, List.cons_append, List.nil_append]; rfl⟩ | exact ⟨_, by rw [hp_setj, List.append_assoc]; rfl⟩ | exact ⟨_, hp_setj _ _ _ _⟩ | exact ⟨[], (List.append_nil _).symm⟩))); clear hK K; (try simp only [hp_setj, hp_set0, List.set_cons_succ, List.set_cons_zero, Nat.zero_add, Nat.reduceAdd, List.append_assoc, List.cons_append, List.nil_append, List.length_append, List.length_cons, List.length_nil, gB, gA, gBA, gAA, bSg, aSp, bS3, hcell, o1A, hwc, hwa]))
    | ((first | (with_reducible show AOp _ _ _ _ _ _ _) | (with_reducible show AQOp _ _ _ _ _ _ _)); simp (disch := first | ((with_reducible show liveO _ _ _ = true); first | assumption | (exact lvB) | (exact lvA) | (exact lvBA _) | (exact lvAA _) | (exact bSl _ _) | (exact aSl _ _) | (exact liveO_setS (by assumption)) | (exact PtL.live (by assumption)) | (exact PtL.liveA (by assumption) _) | (simp only [go_sem]; done)) | omega | assumption | rfl | (simp only [go_sem]; first | done | omega)) only [go_sem, reduceIte, reduceCtorEq, Nat.reduceAdd, Nat.reduceMul, Nat.reduceSub, Nat.reduceLeDiff, Nat.lt_irrefl, Nat.reduceLT, Nat.reduceEqDiff, Nat.reduceBEq, Int.reduceLE, Int.reduceLT, Int.reduceToNat, w64, eq_self, gB, gA, gBA, gAA, bSg, aSp, bS3, hcell, o1A, hwc, hwa])
    | (with_reducible refine AW_seq (fun K hK => ?_))
    | (with_reducible refine AW_region tyOk ?_)
    | ((with_reducible apply AW_treeV (id := 4) tyOk 11 [(7, H.length)] [(25, 1)] [8, 9, 10]); (kernel_rfl); (exact rfl); simp only [List.map_cons, List.map_nil, List.append_assoc, List.cons_append, List.nil_append])
    | ((with_reducible refine AAnyR_leaf (by decide +kernel) ?_); (with_reducible exact Wk.refl))
    | ((with_reducible show AAnyR _ _ _ _ _ _ _ _ _ _ _ _); (first | (with_reducible refine AAnyR_canon (listed := Array.replicate 11 false) #[false, false, false, false, false, false, false, false, false, false, false] (by decide +kernel) ?_) | ((with_reducible refine AAnyR_quiet (listed := #[false, false, false, false, false, false, false, false, false, false, false]) 2 rfl rfl ?_ (by decide +kernel) (by decide +kernel) (by decide +kernel) (by decide +kernel) (by (first | exact ⟨_, rfl⟩ | exact ⟨_, by rw [List.append_assoc]; rfl⟩ | exact ⟨_, by simp only [List.append_assoc, List.cons_append, List.nil_append]; rfl⟩ | exact ⟨_, by rw [hp_setj, List.append_assoc]; rfl⟩ | exact ⟨_, hp_setj _ _ _ _⟩ | exact ⟨[], (List.append_nil _).symm⟩)) (fun K hK => ?_)); (exact rfl)) | (with_reducible refine AAnyR_canon (listed := Array.setIfInBounds #[false, false, false, false, false, false, false, false, false, false, false] 2 true) #[false, false, true, false, false, false, false, false, false, false, false] (by decide +kernel) ?vs1_00100000000) | ((with_reducible refine AAnyR_quiet (listed := #[false, false, true, false, false, false, false, false, false, false, false]) 3 rfl rfl ?_ (by decide +kernel) (by decide +kernel) (by decide +kernel) (by decide +kernel) (by (first | exact ⟨_, rfl⟩ | exact ⟨_, by rw [List.append_assoc]; rfl⟩ | exact ⟨_, by simp only [List.append_assoc, List.cons_append, List.nil_append]; rfl⟩ | exact ⟨_, by rw [hp_setj, List.append_assoc]; rfl⟩ | exact ⟨_, hp_setj _ _ _ _⟩ | exact ⟨[], (List.append_nil _).symm⟩)) (fun K hK => ?_)); (exact rfl)) | (with_reducible refine AAnyR_canon (listed := Array.setIfInBounds #[false, false, true, false, false, false, false, false, false, false, false] 3 true) #[false, false, true, true, false, false, false, false, false, false, false] (by decide +kernel) ?vs1_00110000000) | ((with_reducible refine AAnyR_quiet (listed := #[false, false, true, true, false, false, false, false, false, false, false]) 4 rfl rfl ?_ (by decide +kernel) (by decide +kernel) (by decide +kernel) (by decide +kernel) (by (first | exact ⟨_, rfl⟩ | exact ⟨_, by rw [List.append_assoc]; rfl⟩ | exact ⟨_, by simp only [List.append_assoc, List.cons_append, List.nil_append]; rfl⟩ | exact ⟨_, by rw [hp_setj, List.append_assoc]; rfl⟩ | exact ⟨_, hp_setj _ _ _ _⟩ | exact ⟨[], (List.append_nil _).symm⟩)) (fun K hK => ?_)); (exact rfl)) | (with_reducible refine AAnyR_canon (listed := Array.setIfInBounds #[false, false, true, true, false, false, false, false, false, false, false] 4 true) #[false, false, true, true, true, false, false, false, false, false, false] (by decide +kernel) ?vs1_00111000000) | ((with_reducible refine AAnyR_quiet (listed := #[false, false, true, true, true, false, false, false, false, false, false]) 5 rfl rfl ?_ (by decide +kernel) (by decide +kernel) (by decide +kernel) (by decide +kernel) (by (first | exact ⟨_, rfl⟩ | exact ⟨_, by rw [List.append_assoc]; rfl⟩ | exact ⟨_, by simp only [List.append_assoc, List.cons_append, List.nil_append]; rfl⟩ | exact ⟨_, by rw [hp_setj, List.append_assoc]; rfl⟩ | exact ⟨_, hp_setj _ _ _ _⟩ | exact ⟨[], (List.append_nil _).symm⟩)) (fun K hK => ?_)); (exact rfl)) | (with_reducible refine AAnyR_canon (listed := Array.setIfInBounds #[false, false, true, true, true, false, false, false, false, false, false] 5 true) #[false, false, true, true, true, true, false, false, false, false, false] (by decide +kernel) ?vs1_00111100000) | ((with_reducible refine AAnyR_quiet (listed := #[false, false, true, true, true, true, false, false, false, false, false]) 6 rfl rfl ?_ (by decide +kernel) (by decide +kernel) (by decide +kernel) (by decide +kernel) (by (first | exact ⟨_, rfl⟩ | exact ⟨_, by rw [List.append_assoc]; rfl⟩ | exact ⟨_, by simp only [List.append_assoc, List.cons_append, List.nil_append]; rfl⟩ | exact ⟨_, by rw [hp_setj, List.append_assoc]; rfl⟩ | exact ⟨_, hp_setj _ _ _ _⟩ | exact ⟨[], (List.append_nil _).symm⟩)) (fun K hK => ?_)); (exact rfl)) | (with_reducible refine AAnyR_canon (listed := Array.setIfInBounds #[false, false, true, true, true, true, false, false, false, false, false] 6 true) #[false, false, true, true, true, true, true, false, false, false, false] (by decide +kernel) ?vs1_00111110000) | ((with_reducible refine AAnyR_step (listed := #[false, false, true, true, true, true, true, false, false, false, false]) 0 [7] ?_ ?_); (decide +kernel)) | (with_reducible refine AAnyR_canon (listed := Array.setIfInBounds #[false, false, true, true, true, true, true, false, false, false, false] 0 true) #[true, false, true, true, true, true, true, false, false, false, false] (by decide +kernel) ?vs1_10111110000) | (with_reducible refine AAnyR_canon (listed := Array.setIfInBounds #[false, false, true, true, true, true, true, false, false, false, false] 7 true) #[false, false, true, true, true, true, true, true, false, false, false] (by decide +kernel) ?vs1_00111111000) | ((with_reducible refine AAnyR_step (listed := #[true, false, true, true, true, true, true, false, false, false, false]) 1 [7] ?_ ?_); (decide +kernel)) | (with_reducible refine AAnyR_canon (listed := Array.setIfInBounds #[true, false, true, true, true, true, true, false, false, false, false] 1 true) #[true, true, true, true, true, true, true, false, false, false, false] (by decide +kernel) ?vs1_11111110000) | (with_reducible refine AAnyR_canon (listed := Array.setIfInBounds #[true, false, true, true, true, true, true, false, false, false, false] 7 true) #[true, false, true, true, true, true, true, true, false, false, false] (by decide +kernel) ?vs1_10111111000) | ((with_reducible refine AAnyR_step (listed := #[true, true, true, true, true, true, true, false, false, false, false]) 7 [] ?_ ?_); (decide +kernel)) | (with_reducible refine AAnyR_canon (listed := Array.setIfInBounds #[true, true, true, true, true, true, true, false, false, false, false] 7 true) #[true, true, true, true, true, true, true, true, false, false, false] (by decide +kernel) ?vs1_11111111000) | ((with_reducible refine AAnyR_step (listed := #[true, true, true, true, true, true, true, true, false, false, false]) 8 [] ?_ ?_); (decide +kernel)) | (with_reducible refine AAnyR_canon (listed := Array.setIfInBounds #[true, true, true, true, true, true, true, true, false, false, false] 8 true) #[true, true, true, true, true, true, true, true, true, false, false] (by decide +kernel) ?vs1_11111111100) | ((with_reducible refine AAnyR_step (listed := #[true, true, true, true, true, true, true, true, true, false, false]) 9 [] ?_ ?_); (decide +kernel)) | (with_reducible refine AAnyR_canon (listed := Array.setIfInBounds #[true, true, true, true, true, true, true, true, true, false, false] 9 true) #[true, true, true, true, true, true, true, true, true, true, false] (by decide +kernel) ?vs1_11111111110) | ((with_reducible refine AAnyR_step (listed := #[true, true, true, true, true, true, true, true, true, true, false]) 10 [] ?_ ?_); (decide +kernel)) | (with_reducible refine AAnyR_canon (listed := Array.setIfInBounds #[true, true, true, true, true, true, true, true, true, true, false] 10 true) #[true, true, true, true, true, true, true, true, true, true, true] (by decide +kernel) ?vs1_11111111111) | ((with_reducible refine AAnyR_step (listed := #[true, false, true, true, true, true, true, true, false, false, false]) 1 [8] ?_ ?_); (decide +kernel)) | (with_reducible refine AAnyR_canon (listed := Array.setIfInBounds #[true, false, true, true, true, true, true, true, false, false, false] 1 true) #[true, true, true, true, true, true, true, true, false, false, false] (by decide +kernel) ?vs1_11111111000) | (with_reducible refine AAnyR_canon (listed := Array.setIfInBounds #[true, false, true, true, true, true, true, true, false, false, false] 8 true) #[true, false, true, true, true, true, true, true, true, false, false] (by decide +kernel) ?vs1_10111111100) | ((with_reducible refine AAnyR_step (listed := #[true, false, true, true, true, true, true, true, true, false, false]) 1 [] ?_ ?_); (decide +kernel)) | (with_reducible refine AAnyR_canon (listed := Array.setIfInBounds #[true, false, true, true, true, true, true, true, true, false, false] 1 true) #[true, true, true, true, true, true, true, true, true, false, false] (by decide +kernel) ?vs1_11111111100) | ((with_reducible refine AAnyR_step (listed := #[false, false, true, true, true, true, true, true, false, false, false]) 0 [8] ?_ ?_); (decide +kernel)) | (with_reducible refine AAnyR_canon (listed := Array.setIfInBounds #[false, false, true, true, true, true, true, true, false, false, false] 0 true) #[true, false, true, true, true, true, true, true, false, false, false] (by decide +kernel) ?vs1_10111111000) | (with_reducible refine AAnyR_canon (listed := Array.setIfInBounds #[false, false, true, true, true, true, true, true, false, false, false] 8 true) #[false, false, true, true, true, true, true, true, true, false, false] (by decide +kernel) ?vs1_00111111100) | ((with_reducible refine AAnyR_step (listed := #[false, false, true, true, true, true, true, true, true, false, false]) 0 [] ?_ ?_); (decide +kernel)) | (with_reducible refine AAnyR_canon (listed := Array.setIfInBounds #[false, false, true, true, true, true, true, true, true, false, false] 0 true) #[true, false, true, true, true, true, true, true, true, false, false] (by decide +kernel) ?vs1_10111111100)))
    | ((with_reducible refine AAllR_res (i := 7) (H.length) 25 ?_ rfl ?_ (fun K hK => ?_) ?_); (exact rfl); (exact rfl))
    | ((with_reducible show RK _ _ _ _ _ _); (try simp only [List.append_assoc, List.cons_append, List.nil_append, hp_setj, List.set_cons_succ, List.set_cons_zero]); refine RK_intro _ (by first | exact List.append_assoc _ _ _ | rfl) (by first | exact (hp_getj _ _ _).trans rfl | exact (hp_get0 _ _).trans rfl) rfl rfl (by intro c hc; simp only [List.mem_cons, List.not_mem_nil, or_false] at hc; (try (rcases hc with rfl | rfl | rfl | rfl | rfl)) <;> first | exact trivial | (subst hc; exact trivial) | (cases hc; done)) (by first | exact ⟨_, _, rfl, by simp, Or.inl rfl⟩ | exact ⟨_, _, rfl, by simp, Or.inr ⟨_, rfl⟩⟩) ?_; simp only [hp_setj, hp_set0, List.set_cons_succ, List.set_cons_zero, List.getD_cons_succ, List.getD_cons_zero, reloc]; refine ⟨Or.inr (fun _ => by (first | exact ⟨_, rfl⟩ | exact ⟨_, by rw [List.append_assoc]; rfl⟩ | exact ⟨_, by simp only [List.append_assoc, List.cons_append, List.nil_append]; rfl⟩ | exact ⟨_, by rw [hp_setj, List.append_assoc]; rfl⟩ | exact ⟨_, hp_setj _ _ _ _⟩ | exact ⟨[], (List.append_nil _).symm⟩)), ?_⟩)
    | ((with_reducible refine AAllR_cons ?_ rfl (fun K hK => ?_) ?_); (exact rfl))
    | (with_reducible exact AAllR_nil)
    | ((with_reducible show thenA _ _ _ _ _); simp only [thenA, blockA, if_true, if_false, reduceIte])
    | ((with_reducible show blockA _ _ _ _ _); simp only [thenA, blockA, if_true, if_false, reduceIte, Nat.reduceEqDiff, reduceCtorEq])
    | (with_reducible refine AOps_cons (fun K hK => ?_))
    | (with_reducible refine AQOps_cons (fun K hK => ?_))
    | ((with_reducible refine AQOps_nil ?_); try simp only [thenA, blockA, if_true, if_false, reduceIte, Nat.reduceEqDiff, reduceCtorEq])
    | ((with_reducible refine AOps_nil ?_); try simp only [thenA, blockA, if_true, if_false, reduceIte, Nat.reduceEqDiff, reduceCtorEq])
    | (with_reducible refine AW_block ?_)
    | ((first | (with_reducible refine AW_ret ?_) | (with_reducible refine AW_skip ?_) | (with_reducible refine AW_exit ?_)); try simp only [thenA, blockA, if_true, if_false, reduceIte, Nat.reduceEqDiff, reduceCtorEq])
    | ((with_reducible show AW _ _ (.cond _ _ _) _ _ _); refine AW_cond rfl (fun hg => ?_) (fun hg => ?_) <;> first | (exfalso; simp only [reduceCtorEq] at hg; done) | ((try simp only [Bool.not_eq_true', Bool.not_eq_false', decide_eq_true_eq, decide_eq_false_iff_not] at hg); try (exfalso; omega)))
    | ((with_reducible show _ ∧ _); refine And.intro (fun hg => ?_) (fun hg => ?_) <;> (try simp only [Bool.not_eq_true', Bool.not_eq_false'] at hg) <;> simp only [hg] <;> (try simp only [decide_eq_true_eq, decide_eq_false_iff_not] at hg) <;> (try (exfalso; omega)))
    | ((first | (with_reducible apply FunH_intro) | (with_reducible apply AQ_intro)); (first | exact iValidLevels_c _ _ _ _ _ _ (by first | assumption | exact RdL.app (by assumption) _ | exact RdL_hj rfl (by simp) | exact RdL_h0 rfl (by simp) | exact RdL_nil | exact RdL_emp) (by first | assumption | exact RdLL.app (by assumption) _) (by first | assumption | omega | (simp; omega) | (simp; done)) | exact IsFinite_c _ _ | exact copyLevels_c _ _ _ _ _ _ (by first | assumption | exact RdL.app (by assumption) _ | exact RdL_hj rfl (by simp) | exact RdL_h0 rfl (by simp) | exact RdL_nil | exact RdL_emp) (by first | assumption | exact RdLL.app (by assumption) _) (by first | assumption | omega | (simp; omega) | (simp; done)) | exact settle_c _ _ _ _ _ _ _ _ _ (by first | assumption | omega | (simp; omega) | (simp; done)) (by first | assumption | omega | (simp; omega) | (simp; done)) (by first | assumption | omega | (simp; omega) | (simp; done)) (by first | assumption | omega | (simp; omega) | (simp; done))))
    | (clear hK K)
    | fail)
  have hLS2 := (hLS.app [(⟨1, false, 25, 1, [.flt .f32 (some w)]⟩ : AO)]).putOld (k := 0) hg3 1 (w0 ++ [w])
  rw [hP0] at hLS2
  simp only [List.map_append, List.map_cons, List.map_nil, List.length_append, List.length_cons, List.length_nil, Nat.zero_add, Fw] at hLS2
  have hwP : wR (P.set 0 (i1, 1, w0 ++ [w])) = putL ls w := by
    show List.map _ (List.set _ _ _) = _
    rw [List.map_set]
    show (wR P).set 0 (w0 ++ [w]) = _
    rw [hPw, ← hw0]; rfl
  have hpl : (putL ls w).length = ls.length := List.length_set
  have hpt : totW (putL ls w) = totW ls + 1 := by
    have := totW_set hl1 (w0 ++ [w])
    rw [hw0, List.length_append] at this
    unfold putL
    rw [hw0]
    simp only [List.length_cons, List.length_nil] at this
    omega
  have hset := settle_c _ _ A 0 q (plN (putL ls w)) s _ hLS2 ⟨by omega, by omega⟩ ⟨hs0, hs1⟩ (by rw [hwP, List.length_set, hPl, hpt]; omega) (by rw [hwP, List.length_set, hPl]; unfold plN; omega)
  rw [List.length_set, hPl, hwP, hR] at hset
  refine hset.mono ?_
  intro r' X' hQ
  unfold stQ at hQ
  cases ho : stOk (2 * q : Nat) R
  · have ho' : levB (2 * q : Nat) R.2 (R.1.map fun ws => ws.map some) = false := ho
    rw [ho'] at hQ
    simp only [Bool.false_eq_true, if_false] at hQ
    obtain ⟨rfl, K0, rfl⟩ := hQ
    simp only [List.append_assoc, List.cons_append, List.nil_append]
    repeat' (first
      | ((with_reducible refine hK _ _ ?_); clear hK K)
      | ((first | (with_reducible show AOp _ _ _ _ _ _ _)); simp (disch := first | ((with_reducible show liveO _ _ _ = true); first | assumption | (exact lvB) | (exact lvA) | (exact lvBA _) | (exact lvAA _) | (exact bSl _ _) | (exact aSl _ _) | (exact liveO_setS (by assumption)) | (exact PtL.live (by assumption)) | (exact PtL.liveA (by assumption) _) | (simp only [go_sem]; done)) | omega | assumption | rfl | (simp only [go_sem]; first | done | omega)) only [go_sem, reduceIte, reduceCtorEq, Nat.reduceAdd, Nat.reduceMul, Nat.reduceSub, Nat.reduceLeDiff, Nat.lt_irrefl, Nat.reduceLT, Nat.reduceEqDiff, Nat.reduceBEq, Int.reduceLE, Int.reduceLT, Int.reduceToNat, w64, eq_self])
      | (with_reducible refine AW_seq (fun K hK => ?_))
      | (with_reducible refine AW_region tyOk ?_)
      | (with_reducible refine AOps_cons (fun K hK => ?_))
      | ((with_reducible refine AOps_nil ?_); try simp only [thenA, blockA, if_true, if_false, reduceIte, Nat.reduceEqDiff, reduceCtorEq])
      | (with_reducible refine AW_block ?_)
      | ((first | (with_reducible refine AW_ret ?_) | (with_reducible refine AW_skip ?_) | (with_reducible refine AW_exit ?_)); try simp only [thenA, blockA, if_true, if_false, reduceIte, Nat.reduceEqDiff, reduceCtorEq])
      | ((with_reducible show AW _ _ (.cond _ _ _) _ _ _); refine AW_cond rfl (fun hg => ?_) (fun hg => ?_) <;> first | (exfalso; simp only [reduceCtorEq] at hg; done) | ((try simp only [Bool.not_eq_true', Bool.not_eq_false', decide_eq_true_eq, decide_eq_false_iff_not] at hg); try (exfalso; omega)))
      | ((with_reducible show _ ∧ _); refine And.intro (fun hg => ?_) (fun hg => ?_) <;> (try simp only [Bool.not_eq_true', Bool.not_eq_false'] at hg) <;> simp only [hg] <;> (try simp only [decide_eq_true_eq, decide_eq_false_iff_not] at hg) <;> (try (exfalso; omega)))
      | ((with_reducible apply FunH_intro); (first | exact iValidLevels_c _ _ _ _ _ _ (by first | assumption | exact RdL.app (by assumption) _ | exact RdL_hj rfl (by simp) | exact RdL_h0 rfl (by simp) | exact RdL_nil | exact RdL_emp) (by first | assumption | exact RdLL.app (by assumption) _) (by first | assumption | omega | (simp; omega) | (simp; done)) | exact IsFinite_c _ _ | exact copyLevels_c _ _ _ _ _ _ (by first | assumption | exact RdL.app (by assumption) _ | exact RdL_hj rfl (by simp) | exact RdL_h0 rfl (by simp) | exact RdL_nil | exact RdL_emp) (by first | assumption | exact RdLL.app (by assumption) _) (by first | assumption | omega | (simp; omega) | (simp; done)) | exact settle_c _ _ _ _ _ _ _ _ _ (by first | assumption | omega | (simp; omega) | (simp; done)) (by first | assumption | omega | (simp; omega) | (simp; done)) (by first | assumption | omega | (simp; omega) | (simp; done)) (by first | assumption | omega | (simp; omega) | (simp; done))))
      | (clear hK K)
      | fail)
    refine EndA_rows [none] hcl (by first | exact Or.inr rfl | exact Or.inl rfl) (by simp only [Try.results8, resA, aresL, go_sem] <;> rfl) (by simp) (rows := [⟨0, false, 41, 1, []⟩]) (r := .tup [.agg [.int .i64 0, .int .i64 0, .sl Hb.length 0 0 0 none], .bool false]) ?_ ?_ ?_
    · exact ⟨RowOk.none, trivial⟩
    · exact TdT.tup ⟨TdL.agg ⟨TdB.old _ trivial rfl, TdB.old _ trivial rfl, TdB.virt 0 rfl, trivial⟩, TdL.cell (TdB.old _ trivial rfl), trivial⟩
    · rw [ho]; exact ⟨rfl, rfl⟩
  · have ho' : levB (2 * q : Nat) R.2 (R.1.map fun ws => ws.map some) = true := ho
    rw [ho'] at hQ
    simp only [if_true, reduceIte] at hQ
    obtain ⟨v', P', rfl, hw', hL'⟩ := hQ
    obtain ⟨K0, rfl⟩ := hL'.pre
    have hL3 := hL'.weak.setN (b := Hb.length + 1) ⟨0, false, 27, 3, [.int .i64 (2 * q : Nat), .int .i64 R.2, .sl A v' 0 P'.length none]⟩ (by omega) (by omega) (fun k hk => by have := (hL'.row k hk).2.1; rw [List.length_append] at this; simp only [List.length_cons, List.length_nil] at this; omega)
    simp only [List.append_assoc, List.cons_append, List.nil_append, hp_setj, List.set_cons_succ, List.set_cons_zero] at hL3 ⊢
    repeat' (first
      | ((with_reducible refine hK _ _ ?_); clear hK K)
      | ((first | (with_reducible show AOp _ _ _ _ _ _ _)); simp (disch := first | ((with_reducible show liveO _ _ _ = true); first | assumption | (exact lvB) | (exact lvA) | (exact lvBA _) | (exact lvAA _) | (exact bSl _ _) | (exact aSl _ _) | (exact liveO_setS (by assumption)) | (exact PtL.live (by assumption)) | (exact PtL.liveA (by assumption) _) | (simp only [go_sem]; done)) | omega | assumption | rfl | (simp only [go_sem]; first | done | omega)) only [go_sem, reduceIte, reduceCtorEq, Nat.reduceAdd, Nat.reduceMul, Nat.reduceSub, Nat.reduceLeDiff, Nat.lt_irrefl, Nat.reduceLT, Nat.reduceEqDiff, Nat.reduceBEq, Int.reduceLE, Int.reduceLT, Int.reduceToNat, w64, eq_self])
      | (with_reducible refine AW_seq (fun K hK => ?_))
      | (with_reducible refine AW_region tyOk ?_)
      | (with_reducible refine AOps_cons (fun K hK => ?_))
      | ((with_reducible refine AOps_nil ?_); try simp only [thenA, blockA, if_true, if_false, reduceIte, Nat.reduceEqDiff, reduceCtorEq])
      | (with_reducible refine AW_block ?_)
      | ((first | (with_reducible refine AW_ret ?_) | (with_reducible refine AW_skip ?_) | (with_reducible refine AW_exit ?_)); try simp only [thenA, blockA, if_true, if_false, reduceIte, Nat.reduceEqDiff, reduceCtorEq])
      | ((with_reducible show AW _ _ (.cond _ _ _) _ _ _); refine AW_cond rfl (fun hg => ?_) (fun hg => ?_) <;> first | (exfalso; simp only [reduceCtorEq] at hg; done) | ((try simp only [Bool.not_eq_true', Bool.not_eq_false', decide_eq_true_eq, decide_eq_false_iff_not] at hg); try (exfalso; omega)))
      | ((with_reducible show _ ∧ _); refine And.intro (fun hg => ?_) (fun hg => ?_) <;> (try simp only [Bool.not_eq_true', Bool.not_eq_false'] at hg) <;> simp only [hg] <;> (try simp only [decide_eq_true_eq, decide_eq_false_iff_not] at hg) <;> (try (exfalso; omega)))
      | ((with_reducible apply FunH_intro); (first | exact iValidLevels_c _ _ _ _ _ _ (by first | assumption | exact RdL.app (by assumption) _ | exact RdL_hj rfl (by simp) | exact RdL_h0 rfl (by simp) | exact RdL_nil | exact RdL_emp) (by first | assumption | exact RdLL.app (by assumption) _) (by first | assumption | omega | (simp; omega) | (simp; done)) | exact IsFinite_c _ _ | exact copyLevels_c _ _ _ _ _ _ (by first | assumption | exact RdL.app (by assumption) _ | exact RdL_hj rfl (by simp) | exact RdL_h0 rfl (by simp) | exact RdL_nil | exact RdL_emp) (by first | assumption | exact RdLL.app (by assumption) _) (by first | assumption | omega | (simp; omega) | (simp; done)) | exact settle_c _ _ _ _ _ _ _ _ _ (by first | assumption | omega | (simp; omega) | (simp; done)) (by first | assumption | omega | (simp; omega) | (simp; done)) (by first | assumption | omega | (simp; omega) | (simp; done)) (by first | assumption | omega | (simp; omega) | (simp; done))))
      | (clear hK K)
      | fail)
    obtain ⟨K1, hK1, c1, c2, c3⟩ := hL3.cut
    obtain rfl := (List.append_cancel_left hK1).symm
    refine EndA_rows (jsL Hb.length A P') hcl (by first | exact Or.inr rfl | exact Or.inl rfl) (by simp only [Try.results8, resA, aresL, go_sem] <;> rfl) c1 c2 ?_ (r := .tup [.agg [.int .i64 (2 * q : Nat), .int .i64 R.2, .sl Hb.length 0 0 P'.length none], .bool true]) ?_
    · exact TdT.tup ⟨TdL.agg ⟨TdB.old _ trivial rfl, TdB.old _ trivial rfl, c3, trivial⟩, TdL.cell (TdB.old _ trivial rfl), trivial⟩
    · have hx : sxs P' = R.1.map fun ws => ws.map some := by unfold sxs; rw [hw']
      have hxl := sxs_len P'
      rw [ho]
      unfold plQ stX
      simp only [if_true, reduceIte]
      rw [← hx, hxl]
      exact ⟨rfl, rfl⟩
end Go.Proofs.Ytonlgkecphijoaa
