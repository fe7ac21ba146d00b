/- Levels brought in order in a body of their own: the lists, a box, and the place of the result. -/
import Derived.Test.YtonlgkecphijoaaYa
namespace Go.Proofs.Ytonlgkecphijoaa
open Go.RowKit
set_option linter.unusedSimpArgs false
set_option linter.unusedVariables false
set_option maxRecDepth 100000

theorem hget_at {H : Hp} {id ver el sz off : Nat} {ro : Bool} {cs : List LV} (h : H[id]? = some ⟨ver, ro, el, sz, cs⟩) : hget H id ver off = cs[off]? := by simp [hget, h]
theorem liveO_at {H : Hp} {id ver el sz : Nat} {ro : Bool} {cs : List LV} (h : H[id]? = some ⟨ver, ro, el, sz, cs⟩) : liveO H id ver = true := by simp [liveO, h]
theorem hputA_at {H : Hp} {id ver el sz off : Nat} {cs ys : List LV} (h : H[id]? = some ⟨ver, false, el, sz, cs⟩) (h1 : off + ys.length ≤ cs.length) : hput H id ver off ys = some (H.set id ⟨ver, false, el, sz, sets cs off ys⟩) := by
  simp [hput, h, h1]
theorem szO_at {H : Hp} {id ver el sz : Nat} {ro : Bool} {cs : List LV} (h : H[id]? = some ⟨ver, ro, el, sz, cs⟩) : szO H id = sz := by simp [szO, h]
/-- The box of levels. -/
def bxL (r s : Int) (A v n : Nat) : AO := ⟨0, false, 27, 3, [.int .i64 r, .int .i64 s, .sl A v 0 n none]⟩
def rsL : AO := ⟨0, false, 27, 3, [.int .i64 0, .int .i64 0, .nils]⟩
structure SS (H Z : Hp) (B : Nat) (r s : Int) (A v : Nat) (P : List (Nat × Nat × List Nat)) : Prop where
  ls : LS H Z A v P
  box : Z[B]? = some (bxL r s A v P.length)
  res : Z[B + 1]? = some rsL
  lo : H.length ≤ B
  nA : A ≠ B ∧ A ≠ B + 1
  nk : ∀ k, k < P.length → (ix P k).1 ≠ B ∧ (ix P k).1 ≠ B + 1
section
variable {H X Z : Hp} {B A v k : Nat} {r s : Int} {P : List (Nat × Nat × List Nat)}
theorem LS.start (h : LS H X A v P) (r s : Int) : SS H (X ++ [bxL r s A v P.length, rsL]) X.length r s A v P := by
  have hA := h.ltA
  exact ⟨h.app _, (hp_get0 _ _).trans rfl, (hp_getj _ _ _).trans rfl, h.lenX, ⟨by omega, by omega⟩, fun k hk => by have := h.ltk hk; omega⟩
theorem SS.ltB (h : SS H Z B r s A v P) : B < Z.length := lt_ofX h.box
theorem SS.ltR (h : SS H Z B r s A v P) : B + 1 < Z.length := lt_ofX h.res
theorem SS.app (h : SS H Z B r s A v P) (K : Hp) : SS H (Z ++ K) B r s A v P :=
  ⟨h.ls.app K, by rw [List.getElem?_append_left h.ltB]; exact h.box, by rw [List.getElem?_append_left h.ltR]; exact h.res, h.lo, h.nA, h.nk⟩
theorem SS.setB (h : SS H Z B r s A v P) (s' : Int) : SS H (Z.set B (bxL r s' A v P.length)) B r s' A v P :=
  ⟨h.ls.setN _ h.lo h.nA.1 (fun k hk => (h.nk k hk).1), by rw [List.getElem?_set_self h.ltB], by rw [List.getElem?_set_ne (by omega)]; exact h.res, h.lo, h.nA, h.nk⟩
theorem SS.putNew (h : SS H Z B r s A v P) (hk : k < P.length) (ws : List Nat) :
    SS H ((Z ++ [(⟨0, false, 25, 1, ws.map Fw⟩ : AO)]).set A ⟨v, false, 41, 1, (P.map cR).set k (.sl Z.length 0 0 ws.length none)⟩) B r s A v (P.set k (Z.length, 0, ws)) := by
  have hb := h.ltB
  have hr := h.ltR
  refine ⟨h.ls.putNew hk ws, ?_, ?_, h.lo, h.nA, fun j hj => ?_⟩
  · rw [List.getElem?_set_ne h.nA.1, List.getElem?_append_left hb, List.length_set]; exact h.box
  · rw [List.getElem?_set_ne h.nA.2, List.getElem?_append_left hr]; exact h.res
  · rw [List.length_set] at hj
    rw [ix_setA hj]
    split
    · exact ⟨by simp only; omega, by simp only; omega⟩
    · exact h.nk j hj
theorem SS.putOld (h : SS H Z B r s A v P) (hk : k < P.length) (v' : Nat) (ws : List Nat) :
    SS H ((Z.set (ix P k).1 ⟨v', false, 25, 1, ws.map Fw⟩).set A ⟨v, false, 41, 1, (P.map cR).set k (.sl (ix P k).1 v' 0 ws.length none)⟩) B r s A v (P.set k ((ix P k).1, v', ws)) := by
  refine ⟨h.ls.putOld hk v' ws, ?_, ?_, h.lo, h.nA, fun j hj => ?_⟩
  · rw [List.getElem?_set_ne h.nA.1, List.getElem?_set_ne (h.nk k hk).1, List.length_set]; exact h.box
  · rw [List.getElem?_set_ne h.nA.2, List.getElem?_set_ne (h.nk k hk).2]; exact h.res
  · rw [List.length_set] at hj
    rw [ix_setA hj]
    split
    · exact h.nk k hk
    · exact h.nk j hj
theorem SS.grow (h : SS H Z B r s A v P) :
    SS H ((Z.set A ⟨v + 1, false, 41, 1, P.map cR ++ [.sl Z.length 0 0 0 none]⟩).set B (bxL r s A (v + 1) (P.length + 1)) ++ [⟨0, false, 25, 1, []⟩]) B r s A (v + 1) (P ++ [(Z.length, 0, [])]) := by
  have hb := h.ltB
  have hr := h.ltR
  have hl : (Z.set A ⟨v + 1, false, 41, 1, P.map cR ++ [.sl Z.length 0 0 0 none]⟩).length = Z.length := List.length_set
  have hn : ∀ k, k < (P ++ [(Z.length, 0, [])]).length → (ix (P ++ [(Z.length, 0, [])]) k).1 ≠ B ∧ (ix (P ++ [(Z.length, 0, [])]) k).1 ≠ B + 1 := fun k hk => by
    rw [List.length_append] at hk
    simp only [List.length_cons, List.length_nil] at hk
    rcases Nat.lt_or_ge k P.length with h1 | h1
    · rw [ix_appL h1]; exact h.nk k h1
    · obtain rfl : k = P.length := by omega
      rw [ix_appN]; exact ⟨by simp only; omega, by simp only; omega⟩
  have e : (Z.set A ⟨v + 1, false, 41, 1, P.map cR ++ [.sl Z.length 0 0 0 none]⟩).set B (bxL r s A (v + 1) (P.length + 1)) ++ [(⟨0, false, 25, 1, []⟩ : AO)] = (Z.set A ⟨v + 1, false, 41, 1, P.map cR ++ [.sl Z.length 0 0 0 none]⟩ ++ [(⟨0, false, 25, 1, []⟩ : AO)]).set B (bxL r s A (v + 1) (P.length + 1)) := by
    rw [List.set_append_left _ _ (by rw [hl]; exact hb)]
  rw [e]
  refine ⟨h.ls.grow.setN _ h.lo h.nA.1 (fun k hk => (hn k hk).1), ?_, ?_, h.lo, h.nA, hn⟩
  · rw [List.getElem?_set_self (by rw [List.length_append, hl]; omega), List.length_append]; rfl
  · rw [List.getElem?_set_ne (by omega), List.getElem?_append_left (by rw [hl]; exact hr), List.getElem?_set_ne h.nA.2]; exact h.res
end
/-! For the walks. -/
section
variable {H Z : Hp} {B A v k : Nat} {r s : Int} {P : List (Nat × Nat × List Nat)}
theorem at_app {i : Nat} {o : AO} (h : Z[i]? = some o) (L : Hp) : (Z ++ L)[i]? = some o := by rw [List.getElem?_append_left (lt_ofX h)]; exact h
theorem SS.lvB (h : SS H Z B r s A v P) : liveO Z B 0 = true := liveO_at h.box
theorem SS.lvBA (h : SS H Z B r s A v P) (L : Hp) : liveO (Z ++ L) B 0 = true := liveO_at (at_app h.box L)
theorem SS.lvR (h : SS H Z B r s A v P) : liveO Z (B + 1) 0 = true := liveO_at h.res
theorem SS.lvA (h : SS H Z B r s A v P) : liveO Z A v = true := liveO_at h.ls.out
theorem SS.lvAA (h : SS H Z B r s A v P) (L : Hp) : liveO (Z ++ L) A v = true := liveO_at (at_app h.ls.out L)
theorem SS.lvk (h : SS H Z B r s A v P) {i0 v0 : Nat} {w0 : List Nat} (hk : k < P.length) (hi : ix P k = (i0, v0, w0)) : Z[i0]? = some ⟨v0, false, 25, 1, w0.map Fw⟩ := by
  have := (h.ls.row k hk).1; rw [hi] at this; exact this
theorem SS.gB (h : SS H Z B r s A v P) (j : Nat) : hget Z B 0 j = ([.int .i64 r, .int .i64 s, .sl A v 0 P.length none] : List LV)[j]? := hget_at h.box
theorem SS.gBA (h : SS H Z B r s A v P) (L : Hp) (j : Nat) : hget (Z ++ L) B 0 j = ([.int .i64 r, .int .i64 s, .sl A v 0 P.length none] : List LV)[j]? := hget_at (at_app h.box L)
theorem SS.gA (h : SS H Z B r s A v P) (j : Nat) : hget Z A v j = (P.map cR)[j]? := hget_at h.ls.out
theorem SS.gAA (h : SS H Z B r s A v P) (L : Hp) (j : Nat) : hget (Z ++ L) A v j = (P.map cR)[j]? := hget_at (at_app h.ls.out L)
theorem SS.bS (h : SS H Z B r s A v P) (o : AO) (L : Hp) : ((Z ++ L).set A o)[B]? = some (bxL r s A v P.length) := by rw [List.getElem?_set_ne h.nA.1]; exact at_app h.box L
theorem SS.bSl (h : SS H Z B r s A v P) (o : AO) (L : Hp) : liveO ((Z ++ L).set A o) B 0 = true := liveO_at (h.bS o L)
theorem SS.bSp (h : SS H Z B r s A v P) (o : AO) (L : Hp) (x : LV) : hput ((Z ++ L).set A o) B 0 2 [x] = some (((Z ++ L).set A o).set B ⟨0, false, 27, 3, [.int .i64 r, .int .i64 s, x]⟩) := hputA_at (h.bS o L) (by simp)
theorem SS.pB1 (h : SS H Z B r s A v P) (x : LV) : hput Z B 0 1 [x] = some (Z.set B ⟨0, false, 27, 3, [.int .i64 r, x, .sl A v 0 P.length none]⟩) := hputA_at h.box (by simp)
theorem SS.pA (h : SS H Z B r s A v P) (hk : k < P.length) (L : Hp) (x : LV) : hput (Z ++ L) A v k [x] = some ((Z ++ L).set A ⟨v, false, 41, 1, (P.map cR).set k x⟩) := hputA_at (at_app h.ls.out L) (by simp; omega)
end
/-- A nil row made an object of its own. -/
theorem SS.grown {H Z : Hp} {B A v : Nat} {r s : Int} {P : List (Nat × Nat × List Nat)} (h : SS H Z B r s A v P) :
    (((Z.set A ⟨v + 1, false, 41, 1, P.map cR ++ [LV.nils]⟩).set B (bxL r s A (v + 1) (P.length + 1))).set A ⟨v + 1, false, 41, 1, (P.map cR ++ [LV.nils]).set P.length (LV.sl ((Z.set A ⟨v + 1, false, 41, 1, P.map cR ++ [LV.nils]⟩).set B (bxL r s A (v + 1) (P.length + 1))).length 0 0 0 none)⟩) ++ [(⟨0, false, 25, 1, []⟩ : AO)] =
    (Z.set A ⟨v + 1, false, 41, 1, P.map cR ++ [LV.sl Z.length 0 0 0 none]⟩).set B (bxL r s A (v + 1) (P.length + 1)) ++ [(⟨0, false, 25, 1, []⟩ : AO)] := by
  rw [List.set_comm _ _ (Ne.symm h.nA.1), List.set_set, List.length_set, List.length_set, List.set_append_right _ _ (by simp)]
  simp
set_option maxHeartbeats 2000000 in
theorem copyLevels_c (r s : Int) (v : LV) (L : List LV) (xss : List (List (Option Nat))) (H : Hp) (h : RdL H v L) (hL : RdLL H L xss) (hn : totL xss ≤ 1048576) :
    FunH Try.prog 22 [.agg [.int .i64 r, .int .i64 s, v]] H fun r' H' => r' = .agg [.int .i64 r, .int .i64 s, .sl (H.length + 2) 0 0 xss.length none] ∧
      H' = H ++ (⟨0, false, 27, 3, [.int .i64 r, .int .i64 s, .sl (H.length + 2) 0 0 xss.length none]⟩ :: ⟨0, false, 27, 3, [.int .i64 r, .int .i64 s, .sl (H.length + 2) 0 0 xss.length none]⟩ :: ⟨0, false, 41, 1, rowsL (H.length + 3) xss⟩ :: xss.map rowF) := by
  have hlen := hL.length
  have hll := h.lenL hL
  have hb : xss.length ≤ 1048576 := by unfold totL at hn; omega
  have hrl := rowsL_len (H.length + 3) xss
  have hmk : ∀ (te : TE) (el : Nat) (L : Hp), te.by_ * xss.length ≤ 140737488355328 → amake te el L (xss.length : Int) (xss.length : Int) = some (.sl L.length 0 0 xss.length none, L ++ [⟨0, false, el, te.sz, zeros te.zs xss.length⟩]) := fun te el L h3 => amake_ok (Nat.le_refl _) (by omega) h3
  (refine FunH_body tyOk Try.func22 rfl (by kernel_rfl) Try.ntmps22 (fun hcl hbd => ?_); simp only [List.length_cons, List.length_nil, Nat.reduceAdd, Nat.reduceSub, List.replicate, List.cons_append, List.nil_append])
  repeat' (first
 | ((with_reducible refine hK _ _ ?_); clear hK K)
 | ((first | (with_reducible show AOp _ _ _ _ _ _ _)); simp (disch := first | ((with_reducible show liveO _ _ _ = true); first | assumption | (exact liveO_setS (by assumption)) | (exact PtL.live (by assumption)) | (exact PtL.liveA (by assumption) _) | (simp only [go_sem]; done)) | omega | assumption | rfl | (simp only [go_sem]; first | done | omega)) only [go_sem, reduceIte, reduceCtorEq, Nat.reduceAdd, Nat.reduceMul, Nat.reduceSub, Nat.reduceLeDiff, Nat.lt_irrefl, Nat.reduceLT, Nat.reduceEqDiff, Nat.reduceBEq, Int.reduceLE, Int.reduceLT, Int.reduceToNat, w64, eq_self, hll, h.isCell, hmk])
 | (with_reducible refine AW_seq (fun K hK => ?_))
 | (with_reducible refine AW_region tyOk ?_)
 | (with_reducible refine AOps_cons (fun K hK => ?_))
 | ((with_reducible refine AOps_nil ?_); try simp only [thenA, blockA, if_true, if_false, reduceIte, Nat.reduceEqDiff, reduceCtorEq])
 | (with_reducible refine AW_block ?_)
 | ((first | (with_reducible refine AW_ret ?_) | (with_reducible refine AW_skip ?_) | (with_reducible refine AW_exit ?_)); try simp only [thenA, blockA, if_true, if_false, reduceIte, Nat.reduceEqDiff, reduceCtorEq])
 | ((with_reducible show AW _ _ (.cond _ _ _) _ _ _); refine AW_cond rfl (fun hg => ?_) (fun hg => ?_) <;> first | (exfalso; simp only [reduceCtorEq] at hg; done) | ((try simp only [Bool.not_eq_true', Bool.not_eq_false', decide_eq_true_eq, decide_eq_false_iff_not] at hg); try (exfalso; omega)))
 | ((with_reducible show _ ∧ _); refine And.intro (fun hg => ?_) (fun hg => ?_) <;> (try simp only [Bool.not_eq_true', Bool.not_eq_false'] at hg) <;> simp only [hg] <;> (try simp only [decide_eq_true_eq, decide_eq_false_iff_not] at hg) <;> (try (exfalso; omega)))
 | ((with_reducible apply FunH_intro); (first | exact Clone_float32_c _ _ _ (by first | assumption | exact RdL.app (by assumption) _ | exact RdL_hj rfl (by simp) | exact RdL_h0 rfl (by simp) | exact RdL_nil | exact RdL_emp) (by first | assumption | omega | (simp; omega) | (simp; done))))
 | (clear hK K)
    | fail)
  refine AW_loopV [4, 5, 13, 14, 15, 16, 17, 18, 19, 20, 21, 22, 23] (fun p : Nat × Hp => [(13, .int .i64 (p.1 : Nat))]) (fun p => H ++ (⟨0, false, 27, 3, [.int .i64 r, .int .i64 s, v]⟩ :: ⟨0, false, 27, 3, [.int .i64 0, .int .i64 0, .nils]⟩ :: ⟨0, false, 41, 1, (rowsL (H.length + 3) xss).take p.1 ++ List.replicate (xss.length - p.1) .nils⟩ :: p.2)) (fun p => p.1 ≤ xss.length ∧ p.2 = (xss.take p.1).map rowF) (fun p => xss.length - p.1) (0, []) ⟨Nat.zero_le _, by simp⟩ ?_ ?_ ?_
  · simp only [junkAll, setAll, List.foldl_cons, List.foldl_nil, List.set_cons_succ, List.set_cons_zero, JL, true_or, or_true, and_true, true_and, reduceCtorEq, false_or, or_false, LV.int.injEq, LV.bool.injEq, LV.flt.injEq, LV.sl.injEq, LV.ptr.injEq, eq_self, Int.natCast_add, Int.natCast_one, Int.natCast_zero, Int.ofNat_zero]
  · simp
  · intro ⟨k, G⟩ ⟨hk, hG⟩ K hK
    simp only at hk hG
    have hGl : G.length = k := by rw [hG]; simp; omega
    simp only [junkAll, setAll, List.foldl_cons, List.foldl_nil, List.set_cons_succ, List.set_cons_zero]
    by_cases hks : k < xss.length
    · have hi := hL.at hks
      have hni : (ix xss k).length ≤ 1048576 := by have := stT_at hks; unfold totL at hn; omega
      repeat' (first
 | ((with_reducible refine hK _ _ ?_); clear hK K)
 | ((first | (with_reducible show AOp _ _ _ _ _ _ _)); simp (disch := first | ((with_reducible show liveO _ _ _ = true); first | assumption | (exact liveO_setS (by assumption)) | (exact PtL.live (by assumption)) | (exact PtL.liveA (by assumption) _) | (simp only [go_sem]; done)) | omega | assumption | rfl | (simp only [go_sem]; first | done | omega)) only [go_sem, reduceIte, reduceCtorEq, Nat.reduceAdd, Nat.reduceMul, Nat.reduceSub, Nat.reduceLeDiff, Nat.lt_irrefl, Nat.reduceLT, Nat.reduceEqDiff, Nat.reduceBEq, Int.reduceLE, Int.reduceLT, Int.reduceToNat, w64, eq_self, hll, h.idxA, h.ldxA, hrl])
 | (with_reducible refine AW_seq (fun K hK => ?_))
 | (with_reducible refine AW_region tyOk ?_)
 | (with_reducible refine AOps_cons (fun K hK => ?_))
 | ((with_reducible refine AOps_nil ?_); try simp only [thenA, blockA, if_true, if_false, reduceIte, Nat.reduceEqDiff, reduceCtorEq])
 | (with_reducible refine AW_block ?_)
 | ((first | (with_reducible refine AW_ret ?_) | (with_reducible refine AW_skip ?_) | (with_reducible refine AW_exit ?_)); try simp only [thenA, blockA, if_true, if_false, reduceIte, Nat.reduceEqDiff, reduceCtorEq])
 | ((with_reducible show AW _ _ (.cond _ _ _) _ _ _); refine AW_cond rfl (fun hg => ?_) (fun hg => ?_) <;> first | (exfalso; simp only [reduceCtorEq] at hg; done) | ((try simp only [Bool.not_eq_true', Bool.not_eq_false', decide_eq_true_eq, decide_eq_false_iff_not] at hg); try (exfalso; omega)))
 | ((with_reducible show _ ∧ _); refine And.intro (fun hg => ?_) (fun hg => ?_) <;> (try simp only [Bool.not_eq_true', Bool.not_eq_false'] at hg) <;> simp only [hg] <;> (try simp only [decide_eq_true_eq, decide_eq_false_iff_not] at hg) <;> (try (exfalso; omega)))
 | ((with_reducible apply FunH_intro); (first | exact Clone_float32_c _ _ _ (hi.app _) (by omega) | exact Clone_float32_c _ _ _ (by first | assumption | exact RdL.app (by assumption) _ | exact RdL_hj rfl (by simp) | exact RdL_h0 rfl (by simp) | exact RdL_nil | exact RdL_emp) (by first | assumption | omega | (simp; omega) | (simp; done))))
 | (clear hK K)
        | fail)
      refine hK _ _ (k + 1, G ++ [rowF (ix xss k)]) ⟨by simp only; omega, ?_⟩ (by simp only; omega) ?_ ?_
      · rw [take_ix _ _ hks, List.map_append, ← hG]; rfl
      · simp only [junkAll, setAll, List.foldl_cons, List.foldl_nil, List.set_cons_succ, List.set_cons_zero, JL, true_or, or_true, and_true, true_and, reduceCtorEq, false_or, or_false, LV.int.injEq, LV.bool.injEq, LV.flt.injEq, LV.sl.injEq, LV.ptr.injEq, eq_self, Int.natCast_add, Int.natCast_one, Int.natCast_zero, Int.ofNat_zero]
      · have e := fill_id .nils (rowsL (H.length + 3) xss) k (by omega)
        rw [rowsL_ix _ _ _ hks, hrl] at e
        simp only [← e, hGl]
        simp [rowF, Nat.add_assoc, Nat.add_comm 3 k]
    · repeat' (first
 | ((with_reducible refine hK _ _ ?_); clear hK K)
 | ((first | (with_reducible show AOp _ _ _ _ _ _ _)); simp (disch := first | ((with_reducible show liveO _ _ _ = true); first | assumption | (exact liveO_setS (by assumption)) | (exact PtL.live (by assumption)) | (exact PtL.liveA (by assumption) _) | (simp only [go_sem]; done)) | omega | assumption | rfl | (simp only [go_sem]; first | done | omega)) only [go_sem, reduceIte, reduceCtorEq, Nat.reduceAdd, Nat.reduceMul, Nat.reduceSub, Nat.reduceLeDiff, Nat.lt_irrefl, Nat.reduceLT, Nat.reduceEqDiff, Nat.reduceBEq, Int.reduceLE, Int.reduceLT, Int.reduceToNat, w64, eq_self, hll, h.idxA, h.ldxA])
 | (with_reducible refine AW_seq (fun K hK => ?_))
 | (with_reducible refine AW_region tyOk ?_)
 | (with_reducible refine AOps_cons (fun K hK => ?_))
 | ((with_reducible refine AOps_nil ?_); try simp only [thenA, blockA, if_true, if_false, reduceIte, Nat.reduceEqDiff, reduceCtorEq])
 | (with_reducible refine AW_block ?_)
 | ((first | (with_reducible refine AW_ret ?_) | (with_reducible refine AW_skip ?_) | (with_reducible refine AW_exit ?_)); try simp only [thenA, blockA, if_true, if_false, reduceIte, Nat.reduceEqDiff, reduceCtorEq])
 | ((with_reducible show AW _ _ (.cond _ _ _) _ _ _); refine AW_cond rfl (fun hg => ?_) (fun hg => ?_) <;> first | (exfalso; simp only [reduceCtorEq] at hg; done) | ((try simp only [Bool.not_eq_true', Bool.not_eq_false', decide_eq_true_eq, decide_eq_false_iff_not] at hg); try (exfalso; omega)))
 | ((with_reducible show _ ∧ _); refine And.intro (fun hg => ?_) (fun hg => ?_) <;> (try simp only [Bool.not_eq_true', Bool.not_eq_false'] at hg) <;> simp only [hg] <;> (try simp only [decide_eq_true_eq, decide_eq_false_iff_not] at hg) <;> (try (exfalso; omega)))
 | ((with_reducible apply FunH_intro); (first | exact Clone_float32_c _ _ _ (by first | assumption | exact RdL.app (by assumption) _ | exact RdL_hj rfl (by simp) | exact RdL_h0 rfl (by simp) | exact RdL_nil | exact RdL_emp) (by first | assumption | omega | (simp; omega) | (simp; done))))
 | (clear hK K)
        | fail)
      have e : k = xss.length := by omega
      subst e
      rw [hG, List.take_length, List.take_of_length_le (Nat.le_of_eq hrl), Nat.sub_self]
      refine EndA_same (by first | exact Or.inr rfl | exact Or.inl rfl) (by simp only [Try.results22, resA, aresL, go_sem] <;> rfl) ?_
      exact ⟨rfl, by simp⟩
end Go.Proofs.Ytonlgkecphijoaa
