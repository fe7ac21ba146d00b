/- The order in which keys are left out, in the abstract machine: the reference's side. -/
import Derived.Test.YtkihedabakckeaaQe
import Derived.Test.YtkihedabakckeaaEb
namespace Go.Proofs.Ytkihedabakckeaa
open Go.RowKit
set_option linter.unusedSimpArgs false
set_option linter.unusedVariables false
set_option maxRecDepth 100000

def cntA (n s : Int) (left : List Int) (i c : Nat) : Int := ((holdL n s (left.take i) c).length : Nat)
def ownA (n s : Int) (left : List Int) : Nat → Nat → Int
  | 0 => fun _ => 0
  | i + 1 => mixH n s (ix left i) 3 (fun _ => ((i : Nat) : Int)) (ownA n s left i)
theorem cntA_succ {n s : Int} {left : List Int} {i : Nat} (h : i < left.length) : mixH n s (ix left i) 3 (fun c => cntA n s left i c + 1) (cntA n s left i) = cntA n s left (i + 1) := by
  funext c
  unfold cntA
  rw [take_ix _ _ h, holdL_app, holdL_one]
  unfold mixH
  split
  · rw [List.length_append]; rfl
  · rw [List.append_nil]
theorem ownA_one {n s : Int} {left : List Int} {c i : Nat} (h : ∀ j, j < left.length → (thrL (ix left j) n s 3).contains (c : Int) = decide (j = i)) : ∀ m, m ≤ left.length → ownA n s left m c = if i < m then (i : Nat) else 0
  | 0, _ => rfl
  | m + 1, hm => by
    show mixH _ _ _ _ _ _ _ = _
    unfold mixH
    rw [h m (by omega), ownA_one h m (by omega)]
    by_cases e : m = i
    · subst e; simp
    · simp only [decide_eq_false e, Bool.false_eq_true, if_false]
      by_cases e2 : i < m
      · rw [if_pos e2, if_pos (by omega)]
      · rw [if_neg e2, if_neg (by omega)]
theorem sets_left (xs : List LV) {i : Nat} (hi : i < xs.length) : sets xs i (xs.drop (i + 1)) = (xs.take i ++ xs.drop (i + 1)) ++ xs.drop (xs.length - 1) := by
  refine List.ext_getElem? fun j => ?_
  have hd : (xs.drop (i + 1)).length = xs.length - (i + 1) := List.length_drop
  have ht : (xs.take i).length = i := by rw [List.length_take]; omega
  rw [sets_get _ _ _ _ (by omega), hd, List.append_assoc]
  rcases Nat.lt_or_ge j i with h1 | h1
  · rw [if_neg (by omega), List.getElem?_append_left (by omega), List.getElem?_take, if_pos h1]
  · rw [List.getElem?_append_right (by omega), ht]
    rcases Nat.lt_or_ge j (xs.length - 1) with h2 | h2
    · rw [if_pos (by omega), List.getElem?_append_left (by omega)]
    · rw [if_neg (by omega), List.getElem?_append_right (by omega), hd, List.getElem?_drop]
      congr 1; omega
/-- A copy of a row behind an empty one. -/
theorem aapp0 {el id m : Nat} {H : Hp} {news : List LV} (hm : news.length = m) (hb : m ≤ 1048576) :
    ∃ v5 : Nat, ∀ te : TE, te.sz = 1 → te.by_ = 8 → aappO te el H id 0 0 0 none m news (some ⟨0, false, el, 1, []⟩) = some (.sl id v5 0 m none, H.set id ⟨v5, false, el, 1, news⟩) := by
  by_cases h0 : m = 0
  · have hz : news = [] := List.eq_nil_of_length_eq_zero (by omega)
    subst hz; subst h0
    refine ⟨0, fun te hs hby => ?_⟩
    unfold aappO
    simp only [hs, hby]
    rw [if_neg (by simp), if_neg (by simp), if_neg (by simp), if_neg (by simp), if_pos (by simp)]
    rfl
  · refine ⟨1, fun te hs hby => ?_⟩
    unfold aappO
    simp only [hs, hby]
    rw [if_neg (by simp), if_neg (by simp), if_neg (by simp), if_neg (by simp), if_neg (by simp; omega), if_pos ⟨trivial, by simp, by rfl, by omega, by omega⟩, List.nil_append]
    simp only [Nat.zero_add]
def odQ (H : Hp) (R : Option (List Int × List Int)) (r : LV) (H' : Hp) : Prop := match R with
  | none => r = .tup [.nils, .nils, .bool false] ∧ H' = H
  | some (o, t) => r = .tup [.sl H.length 0 0 o.length none, .sl (H.length + 1) 0 0 t.length none, .bool true] ∧ H' = H ++ [⟨0, false, 2, 1, o.map (LV.int .i64)⟩, ⟨0, false, 2, 1, t.map (LV.int .i64)⟩]
set_option maxHeartbeats 8000000 in
theorem l04Order_c (lv : LV) (ks : List Int) (n s : Int) (H : Hp) (h : RdL H lv (ks.map (LV.int .i64))) (hn : ks.length ≤ 256) (e3' : 1 ≤ n ∧ n ≤ 128) (e4' : 0 ≤ s ∧ s ≤ 4294967295) (hnd : ks.Nodup) (hin : ∀ x ∈ ks, 0 ≤ x ∧ x ≤ 4294967295) :
    FunH Try.prog 14 [lv, .int .i64 n, .int .i64 s] H (odQ H (peelG n s ks.length ks [] [])) := by
  obtain ⟨R, hR⟩ : ∃ R, peelG n s ks.length ks [] [] = R := ⟨_, rfl⟩
  rw [hR]
  obtain ⟨M, hM⟩ : ∃ M, (3 * n).toNat = M := ⟨_, rfl⟩
  have hMn : (M : Int) = 3 * n := by omega
  have hw3 : IntKind.i64.wrap (3 * n) = (M : Int) := by rw [w64 _ (by omega) (by omega)]; omega
  have hmk : ∀ (te : TE) (el : Nat) (L : Hp), te.by_ * M ≤ 140737488355328 → amake te el L (M : Int) (M : Int) = some (.sl L.length 0 0 M none, L ++ [⟨0, false, el, te.sz, zeros te.zs M⟩]) := fun te el L h3 => amake_ok (Nat.le_refl _) (by omega) h3
  obtain ⟨L, hL⟩ : ∃ L, ks.length = L := ⟨_, rfl⟩
  rw [hL] at hn hR
  have hlm : (ks.map (LV.int .i64)).length = L := by rw [List.length_map, hL]
  have hlen : lenOf lv = some L := by rw [h.len, hlm]
  obtain ⟨v5, hv5⟩ := aapp0 (el := 2) (id := H.length) (H := H ++ [(⟨0, false, 2, 1, []⟩ : AO)]) hlm (by omega)
  (refine FunH_body tyOk Try.func14 rfl (by kernel_rfl) Try.ntmps14 (fun hcl hbd => ?_); simp only [List.length_cons, List.length_nil, Nat.reduceAdd, Nat.reduceSub, List.replicate, List.cons_append, List.nil_append])
  repeat' (first
 | ((with_reducible refine hK _ _ ?_); clear hK K)
 | ((first | (with_reducible show AOp _ _ _ _ _ _ _)); simp (disch := first | ((with_reducible show liveO _ _ _ = true); first | assumption | (exact liveO_atI oB0) | (exact liveO_atI oB1) | (exact liveO_atI (oC _ _)) | (exact liveO_setS (by assumption)) | (exact PtL.live (by assumption)) | (exact PtL.liveA (by assumption) _) | (simp only [go_sem]; done)) | omega | assumption | rfl | (simp only [go_sem]; first | done | omega)) only [go_sem, reduceIte, reduceCtorEq, Nat.reduceAdd, Nat.reduceMul, Nat.reduceSub, Nat.reduceLeDiff, Nat.lt_irrefl, Nat.reduceLT, Nat.reduceEqDiff, Nat.reduceBEq, Int.reduceLE, Int.reduceLT, Int.reduceToNat, w64, eq_self, hlen, h.cellsA, hlm, int_cells, hv5])
 | (with_reducible refine AW_seq (fun K hK => ?_))
 | (with_reducible refine AW_region tyOk ?_)
 | (with_reducible refine AOps_cons (fun K hK => ?_))
 | ((with_reducible refine AOps_nil ?_); try simp only [thenA, blockA, if_true, if_false, reduceIte, Nat.reduceEqDiff, reduceCtorEq])
 | (with_reducible refine AW_block ?_)
 | ((first | (with_reducible refine AW_ret ?_) | (with_reducible refine AW_skip ?_) | (with_reducible refine AW_exit ?_)); try simp only [thenA, blockA, if_true, if_false, reduceIte, Nat.reduceEqDiff, reduceCtorEq])
 | ((with_reducible show AW _ _ (.cond _ _ _) _ _ _); refine AW_cond rfl (fun hg => ?_) (fun hg => ?_) <;> first | (exfalso; simp only [reduceCtorEq] at hg; done) | ((try simp only [Bool.not_eq_true', Bool.not_eq_false', decide_eq_true_eq, decide_eq_false_iff_not] at hg); try (exfalso; omega)))
 | ((with_reducible show _ ∧ _); refine And.intro (fun hg => ?_) (fun hg => ?_) <;> (try simp only [Bool.not_eq_true', Bool.not_eq_false'] at hg) <;> simp only [hg] <;> (try simp only [decide_eq_true_eq, decide_eq_false_iff_not] at hg) <;> (try (exfalso; omega)))
 | ((with_reducible apply FunH_intro); (first | exact l04Three_c _ _ _ (by first | assumption | omega | (simp; omega) | (simp; done)) (by first | assumption | omega | (simp; omega) | (simp; done)) (by first | assumption | omega | (simp; omega) | (simp; done)) _))
 | (clear hK K)
    | fail)
  obtain ⟨A, hA⟩ : ∃ A, H.length = A := ⟨_, rfl⟩
  refine AW_loopV [6, 7, 8, 9, 10, 11, 12, 13, 14, 15, 16, 17, 18, 19, 25, 26, 27, 28, 29, 30, 31, 32, 33, 34, 35, 36, 37, 38, 39, 40, 41, 42, 43, 44, 45, 46, 47, 48, 49, 50, 51, 52, 53, 54, 55, 56, 57, 58, 59, 60, 61, 62, 63, 64, 65, 66, 67, 68, 69, 70, 71, 72, 73, 74, 75, 76, 77, 78, 79, 80, 81, 82, 83, 84, 85, 86, 87, 88, 89, 90, 91, 92, 93, 94, 95, 96, 97, 98, 99, 100, 101, 102, 103, 104, 105, 106, 107, 108, 109] (fun p : Nat × (Nat × Nat × Nat) × (List Int × List Int × List Int) × List LV × Hp => [(9, .sl H.length p.2.1.1 0 p.2.2.1.1.length none), (10, .sl (H.length + 1) p.2.1.2.1 0 p.1 none), (11, .sl (H.length + 2) p.2.1.2.2 0 p.1 none)])
    (fun p => H ++ (⟨p.2.1.1, false, 2, 1, p.2.2.1.1.map (LV.int .i64) ++ p.2.2.2.1⟩ :: ⟨p.2.1.2.1, false, 2, 1, p.2.2.1.2.1.map (LV.int .i64)⟩ :: ⟨p.2.1.2.2, false, 2, 1, p.2.2.1.2.2.map (LV.int .i64)⟩ :: p.2.2.2.2))
    (fun p => p.1 ≤ L ∧ pgI n s L p.1 R p.2.2.1.1 p.2.2.1.2.1 p.2.2.1.2.2) (fun p => L - p.1) (0, (v5, 0, 0), (ks, [], []), [], []) ⟨Nat.zero_le _, pgI_start hnd hin hL hR⟩ ?_ ?_ ?_
  · simp only [junkAll, setAll, List.foldl_cons, List.foldl_nil, List.set_cons_succ, List.set_cons_zero, JL, true_or, or_true, and_true, true_and, reduceCtorEq, false_or, or_false, LV.int.injEq, LV.bool.injEq, LV.flt.injEq, LV.sl.injEq, LV.ptr.injEq, eq_self, Int.natCast_add, Int.natCast_one, Int.natCast_zero, Int.ofNat_zero]
    exact hL.symm
  · simp
  clear hv5 hR
  intro ⟨r, ⟨vl, vo, vt⟩, ⟨left, o, t⟩, Z, G⟩ ⟨hr, hG⟩ K hK
  simp only at hr hG
  refine AW.weak (Wk.trim (id := H.length) (v := vl) (e := 2) (s := 1) (cs := left.map (LV.int .i64)) (Z := Z) ((hp_get0 _ _).trans rfl)) ?_
  rw [hp_set0, List.set_cons_zero]
  have hll := hG.len
  have hlo := hG.lo
  have hlt := hG.lt
  have hlm2 : (left.map (LV.int .i64)).length = left.length := List.length_map ..
  have hom : (o.map (LV.int .i64)).length = r := by rw [List.length_map, hlo]
  have htm : (t.map (LV.int .i64)).length = r := by rw [List.length_map, hlt]
  simp only [junkAll, setAll, List.foldl_cons, List.foldl_nil, List.set_cons_succ, List.set_cons_zero]
  by_cases hrL : r < L
  · have hpos : (0 : Int) < ((left.length : Nat) : Int) := by omega
    repeat' (first
 | ((with_reducible refine hK _ _ ?_); clear hK K)
 | ((first | (with_reducible show AOp _ _ _ _ _ _ _)); simp (disch := first | ((with_reducible show liveO _ _ _ = true); first | assumption | (exact liveO_atI oB0) | (exact liveO_atI oB1) | (exact liveO_atI (oC _ _)) | (exact liveO_setS (by assumption)) | (exact PtL.live (by assumption)) | (exact PtL.liveA (by assumption) _) | (simp only [go_sem]; done)) | omega | assumption | rfl | (simp only [go_sem]; first | done | omega)) only [go_sem, reduceIte, reduceCtorEq, Nat.reduceAdd, Nat.reduceMul, Nat.reduceSub, Nat.reduceLeDiff, Nat.lt_irrefl, Nat.reduceLT, Nat.reduceEqDiff, Nat.reduceBEq, Int.reduceLE, Int.reduceLT, Int.reduceToNat, w64, eq_self, hpos, hw3, hmk])
 | (with_reducible refine AW_seq (fun K hK => ?_))
 | (with_reducible refine AW_region tyOk ?_)
 | (with_reducible refine AOps_cons (fun K hK => ?_))
 | ((with_reducible refine AOps_nil ?_); try simp only [thenA, blockA, if_true, if_false, reduceIte, Nat.reduceEqDiff, reduceCtorEq])
 | (with_reducible refine AW_block ?_)
 | ((first | (with_reducible refine AW_ret ?_) | (with_reducible refine AW_skip ?_) | (with_reducible refine AW_exit ?_)); try simp only [thenA, blockA, if_true, if_false, reduceIte, Nat.reduceEqDiff, reduceCtorEq])
 | ((with_reducible show AW _ _ (.cond _ _ _) _ _ _); refine AW_cond rfl (fun hg => ?_) (fun hg => ?_) <;> first | (exfalso; simp only [reduceCtorEq] at hg; done) | ((try simp only [Bool.not_eq_true', Bool.not_eq_false', decide_eq_true_eq, decide_eq_false_iff_not] at hg); try (exfalso; omega)))
 | ((with_reducible show _ ∧ _); refine And.intro (fun hg => ?_) (fun hg => ?_) <;> (try simp only [Bool.not_eq_true', Bool.not_eq_false'] at hg) <;> simp only [hg] <;> (try simp only [decide_eq_true_eq, decide_eq_false_iff_not] at hg) <;> (try (exfalso; omega)))
 | ((with_reducible apply FunH_intro); (first | exact l04Three_c _ _ _ (by first | assumption | omega | (simp; omega) | (simp; done)) (by first | assumption | omega | (simp; omega) | (simp; done)) (by first | assumption | omega | (simp; omega) | (simp; done)) _))
 | (clear hK K)
      | fail)
    obtain ⟨B, hB⟩ : ∃ B, H ++ ((⟨vl, false, 2, 1, left.map (LV.int .i64)⟩ : AO) :: ⟨vo, false, 2, 1, o.map (LV.int .i64)⟩ :: ⟨vt, false, 2, 1, t.map (LV.int .i64)⟩ :: G) = B := ⟨_, rfl⟩
    have hBl : B.length = H.length + (G.length + 3) := by rw [← hB]; simp only [List.length_append, List.length_cons]
    have hBl2 : H.length + (G.length + 4) = B.length + 1 := by omega
    have hBX : H ++ ((⟨vl, false, 2, 1, left.map (LV.int .i64)⟩ : AO) :: ⟨vo, false, 2, 1, o.map (LV.int .i64)⟩ :: ⟨vt, false, 2, 1, t.map (LV.int .i64)⟩ :: (G ++ [⟨0, false, 2, 1, List.replicate M (LV.int .i64 0)⟩, ⟨0, false, 3, 1, List.replicate M (LV.int .i64 0)⟩])) = B ++ [⟨0, false, 2, 1, List.replicate M (LV.int .i64 0)⟩, ⟨0, false, 3, 1, List.replicate M (LV.int .i64 0)⟩] := by rw [← hB]; simp
    have oB0 : B[H.length]? = some ⟨vl, false, 2, 1, left.map (LV.int .i64)⟩ := by rw [← hB]; exact (hp_get0 _ _).trans rfl
    have hrl : RdL B (.sl H.length vl 0 left.length none) (left.map (LV.int .i64)) := RdL_id oB0 hlm2
    rw [hBX]
    simp only [← hBl, hBl2]
    have hz1 : List.replicate M (LV.int .i64 0) = (rowC M (cntA n s left 0)).map (LV.int .i64) := by
      apply List.ext_getElem?
      intro i
      rcases Nat.lt_or_ge i M with hi | hi
      · rw [List.getElem?_replicate, if_pos hi, List.getElem?_map, rowC_get hi]; rfl
      · rw [List.getElem?_eq_none (by simpa using hi), List.getElem?_eq_none (by rw [List.length_map, rowC_len]; exact hi)]
    have hz2 : List.replicate M (LV.int .i64 0) = (rowC M (ownA n s left 0)).map (LV.int .i64) := by
      apply List.ext_getElem?
      intro i
      rcases Nat.lt_or_ge i M with hi | hi
      · rw [List.getElem?_replicate, if_pos hi, List.getElem?_map, rowC_get hi]; rfl
      · rw [List.getElem?_eq_none (by simpa using hi), List.getElem?_eq_none (by rw [List.length_map, rowC_len]; exact hi)]
    have hrm : ∀ f : Nat → Int, ((rowC M f).map (LV.int .i64)).length = M := fun f => by rw [List.length_map, rowC_len]
    have hcg : ∀ (f : Nat → Int) (c : Nat), c < M → ((rowC M f).map (LV.int .i64))[c]? = some (.int .i64 (f c)) := fun f c hc => by rw [List.getElem?_map, rowC_get hc]; rfl
    refine AW_loopV [14, 15, 16, 17, 34, 35, 36, 37, 38, 39, 40, 41, 42, 43, 44, 45, 46, 47, 48, 49, 50, 51, 52, 53, 54, 55, 56, 57, 58, 59, 60, 61, 62, 63, 64, 65, 66, 67, 68, 69] (fun p : Nat × Hp => [(14, .int .i64 (p.1 : Nat))]) (fun p => B ++ (⟨0, false, 2, 1, (rowC M (cntA n s left p.1)).map (LV.int .i64)⟩ :: ⟨0, false, 3, 1, (rowC M (ownA n s left p.1)).map (LV.int .i64)⟩ :: p.2)) (fun p => p.1 ≤ left.length) (fun p => left.length - p.1) (0, []) (Nat.zero_le _) ?_ ?_ ?_
    · simp only [junkAll, setAll, List.foldl_cons, List.foldl_nil, List.set_cons_succ, List.set_cons_zero, JL, true_or, or_true, and_true, true_and, reduceCtorEq, false_or, or_false, LV.int.injEq, LV.bool.injEq, LV.flt.injEq, LV.sl.injEq, LV.ptr.injEq, eq_self, Int.natCast_add, Int.natCast_one, Int.natCast_zero, Int.ofNat_zero]
    · rw [← hz1, ← hz2]
    intro ⟨i, G2⟩ hi K hK
    simp only at hi
    simp only [junkAll, setAll, List.foldl_cons, List.foldl_nil, List.set_cons_succ, List.set_cons_zero]
    by_cases hil : i < left.length
    · have hki := hG.key.1 (ix left i) (ix_mem left i hil)
      obtain ⟨k, hk⟩ : ∃ k, ix left i = k := ⟨_, rfl⟩
      rw [hk] at hki
      repeat' (first
 | ((with_reducible refine hK _ _ ?_); clear hK K)
 | ((first | (with_reducible show AOp _ _ _ _ _ _ _)); simp (disch := first | ((with_reducible show liveO _ _ _ = true); first | assumption | (exact liveO_atI oB0) | (exact liveO_atI oB1) | (exact liveO_atI (oC _ _)) | (exact liveO_setS (by assumption)) | (exact PtL.live (by assumption)) | (exact PtL.liveA (by assumption) _) | (simp only [go_sem]; done)) | omega | assumption | rfl | (simp only [go_sem]; first | done | omega)) only [go_sem, reduceIte, reduceCtorEq, Nat.reduceAdd, Nat.reduceMul, Nat.reduceSub, Nat.reduceLeDiff, Nat.lt_irrefl, Nat.reduceLT, Nat.reduceEqDiff, Nat.reduceBEq, Int.reduceLE, Int.reduceLT, Int.reduceToNat, w64, eq_self, hrl.idxmA, hrl.ldmA, hrl.lenm, hlm2, hk])
 | (with_reducible refine AW_seq (fun K hK => ?_))
 | (with_reducible refine AW_region tyOk ?_)
 | (with_reducible refine AOps_cons (fun K hK => ?_))
 | ((with_reducible refine AOps_nil ?_); try simp only [thenA, blockA, if_true, if_false, reduceIte, Nat.reduceEqDiff, reduceCtorEq])
 | (with_reducible refine AW_block ?_)
 | ((first | (with_reducible refine AW_ret ?_) | (with_reducible refine AW_skip ?_) | (with_reducible refine AW_exit ?_)); try simp only [thenA, blockA, if_true, if_false, reduceIte, Nat.reduceEqDiff, reduceCtorEq])
 | ((with_reducible show AW _ _ (.cond _ _ _) _ _ _); refine AW_cond rfl (fun hg => ?_) (fun hg => ?_) <;> first | (exfalso; simp only [reduceCtorEq] at hg; done) | ((try simp only [Bool.not_eq_true', Bool.not_eq_false', decide_eq_true_eq, decide_eq_false_iff_not] at hg); try (exfalso; omega)))
 | ((with_reducible show _ ∧ _); refine And.intro (fun hg => ?_) (fun hg => ?_) <;> (try simp only [Bool.not_eq_true', Bool.not_eq_false'] at hg) <;> simp only [hg] <;> (try simp only [decide_eq_true_eq, decide_eq_false_iff_not] at hg) <;> (try (exfalso; omega)))
 | ((with_reducible apply FunH_intro); (first | ((with_reducible show FunH _ 15 _ _ _); exact l04Three_c k n s hki e3' e4' _)))
 | (clear hK K)
        | fail)
      have oC0 : ∀ c w : AO, (B ++ (c :: w :: (G2 ++ [(⟨0, false, 2, 1, (thrL k n s 3).map (LV.int .i64)⟩ : AO)])))[B.length + (G2.length + 2)]? = some ⟨0, false, 2, 1, (thrL k n s 3).map (LV.int .i64)⟩ := fun c w => by
        rw [hp_getj, List.getElem?_cons_succ, List.getElem?_cons_succ]; simp
      obtain ⟨G3, hG3⟩ : ∃ G3, G2 ++ [(⟨0, false, 2, 1, (thrL k n s 3).map (LV.int .i64)⟩ : AO)] = G3 := ⟨_, rfl⟩
      obtain ⟨C, hC⟩ : ∃ C, B.length + (G2.length + 2) = C := ⟨_, rfl⟩
      have oC : ∀ c w : AO, (B ++ (c :: w :: G3))[C]? = some ⟨0, false, 2, 1, (thrL k n s 3).map (LV.int .i64)⟩ := by rw [← hG3, ← hC]; exact oC0
      clear oC0
      rw [hG3]
      simp only [hC]
      have hlm3 : ((thrL k n s 3).map (LV.int .i64)).length = 3 := by rw [List.length_map, thrL_len]
      refine AW_loopV [17, 50, 51, 52, 53, 54, 55, 56, 57, 58, 59, 60, 61, 62, 63, 64, 65, 66, 67, 68, 69] (fun j : Nat => [(17, .int .i64 (j : Nat))]) (fun j => B ++ (⟨0, false, 2, 1, (rowC M (mixH n s k j (fun c => cntA n s left i c + 1) (cntA n s left i))).map (LV.int .i64)⟩ :: ⟨0, false, 3, 1, (rowC M (mixH n s k j (fun _ => ((i : Nat) : Int)) (ownA n s left i))).map (LV.int .i64)⟩ :: G3)) (fun j => j ≤ 3) (fun j => 3 - j) 0 (Nat.zero_le _) ?_ ?_ ?_
      · simp only [junkAll, setAll, List.foldl_cons, List.foldl_nil, List.set_cons_succ, List.set_cons_zero, JL, true_or, or_true, and_true, true_and, reduceCtorEq, false_or, or_false, LV.int.injEq, LV.bool.injEq, LV.flt.injEq, LV.sl.injEq, LV.ptr.injEq, eq_self, Int.natCast_add, Int.natCast_one, Int.natCast_zero, Int.ofNat_zero]
      · rw [mixH_zero, mixH_zero]
      intro j hj K hK
      simp only [junkAll, setAll, List.foldl_cons, List.foldl_nil, List.set_cons_succ, List.set_cons_zero]
      by_cases hj3 : j < 3
      · obtain ⟨p0, p1, p2, p3⟩ := pkI_b (k := k) (s := s) e3' hj3
        obtain ⟨c, hc⟩ : ∃ c : Nat, pkI k n s j = (c : Nat) := ⟨(pkI k n s j).toNat, by omega⟩
        have hcM : c < M := by omega
        have hmx : mixH n s k j (fun c => cntA n s left i c + 1) (cntA n s left i) c = cntA n s left i c := mixH_at e3' hj3 hc
        have g1 := hcg (mixH n s k j (fun c => cntA n s left i c + 1) (cntA n s left i)) c hcM
        rw [hmx] at g1
        have hcb : 0 ≤ cntA n s left i c ∧ cntA n s left i c ≤ 256 := by
          have := holdL_le (n := n) (s := s) (left := left.take i) c
          rw [List.length_take] at this
          unfold cntA; omega
        have hwc : IntKind.i64.wrap (cntA n s left i c + 1) = cntA n s left i c + 1 := w64 _ (by omega) (by omega)
        have s1 : ((rowC M (mixH n s k j (fun c => cntA n s left i c + 1) (cntA n s left i))).map (LV.int .i64)).set c (.int .i64 (cntA n s left i c + 1)) = (rowC M (mixH n s k (j + 1) (fun c => cntA n s left i c + 1) (cntA n s left i))).map (LV.int .i64) := by
          rw [← List.map_set]; congr 1; exact rowC_set (f := fun c => cntA n s left i c + 1) hj3 hc hcM
        have s2 : ((rowC M (mixH n s k j (fun _ => ((i : Nat) : Int)) (ownA n s left i))).map (LV.int .i64)).set c (.int .i64 (i : Nat)) = (rowC M (mixH n s k (j + 1) (fun _ => ((i : Nat) : Int)) (ownA n s left i))).map (LV.int .i64) := by
          rw [← List.map_set]; congr 1; exact rowC_set (f := fun _ => ((i : Nat) : Int)) hj3 hc hcM
        have hr1 := hrm (mixH n s k j (fun c => cntA n s left i c + 1) (cntA n s left i))
        have hr2 := hrm (mixH n s k j (fun _ => ((i : Nat) : Int)) (ownA n s left i))
        have q1 : ∀ (el : Nat) (T : Hp), hput ((⟨0, false, el, 1, (rowC M (mixH n s k j (fun c => cntA n s left i c + 1) (cntA n s left i))).map (LV.int .i64)⟩ : AO) :: T) 0 0 c [.int .i64 (cntA n s left i c + 1)] = some (⟨0, false, el, 1, (rowC M (mixH n s k (j + 1) (fun c => cntA n s left i c + 1) (cntA n s left i))).map (LV.int .i64)⟩ :: T) := fun el T => by
          rw [← s1]; simp [hput, sets, hr1]; omega
        have q2 : ∀ (a : AO) (el : Nat) (T : Hp), hput (a :: (⟨0, false, el, 1, (rowC M (mixH n s k j (fun _ => ((i : Nat) : Int)) (ownA n s left i))).map (LV.int .i64)⟩ : AO) :: T) 1 0 c [.int .i64 (i : Nat)] = some (a :: ⟨0, false, el, 1, (rowC M (mixH n s k (j + 1) (fun _ => ((i : Nat) : Int)) (ownA n s left i))).map (LV.int .i64)⟩ :: T) := fun a el T => by
          rw [← s2]; simp [hput, sets, hr2]; omega
        repeat' (first
 | ((with_reducible refine hK _ _ ?_); clear hK K)
 | ((first | (with_reducible show AOp _ _ _ _ _ _ _)); simp (disch := first | ((with_reducible show liveO _ _ _ = true); first | assumption | (exact liveO_atI oB0) | (exact liveO_atI oB1) | (exact liveO_atI (oC _ _)) | (exact liveO_setS (by assumption)) | (exact PtL.live (by assumption)) | (exact PtL.liveA (by assumption) _) | (simp only [go_sem]; done)) | omega | assumption | rfl | (simp only [go_sem]; first | done | omega)) only [go_sem, reduceIte, reduceCtorEq, Nat.reduceAdd, Nat.reduceMul, Nat.reduceSub, Nat.reduceLeDiff, Nat.lt_irrefl, Nat.reduceLT, Nat.reduceEqDiff, Nat.reduceBEq, Int.reduceLE, Int.reduceLT, Int.reduceToNat, w64, eq_self, hget_atI (oC _ _), thr_get, hc, g1, hwc, q1, q2])
 | (with_reducible refine AW_seq (fun K hK => ?_))
 | (with_reducible refine AW_region tyOk ?_)
 | (with_reducible refine AOps_cons (fun K hK => ?_))
 | ((with_reducible refine AOps_nil ?_); try simp only [thenA, blockA, if_true, if_false, reduceIte, Nat.reduceEqDiff, reduceCtorEq])
 | (with_reducible refine AW_block ?_)
 | ((first | (with_reducible refine AW_ret ?_) | (with_reducible refine AW_skip ?_) | (with_reducible refine AW_exit ?_)); try simp only [thenA, blockA, if_true, if_false, reduceIte, Nat.reduceEqDiff, reduceCtorEq])
 | ((with_reducible show AW _ _ (.cond _ _ _) _ _ _); refine AW_cond rfl (fun hg => ?_) (fun hg => ?_) <;> first | (exfalso; simp only [reduceCtorEq] at hg; done) | ((try simp only [Bool.not_eq_true', Bool.not_eq_false', decide_eq_true_eq, decide_eq_false_iff_not] at hg); try (exfalso; omega)))
 | ((with_reducible show _ ∧ _); refine And.intro (fun hg => ?_) (fun hg => ?_) <;> (try simp only [Bool.not_eq_true', Bool.not_eq_false'] at hg) <;> simp only [hg] <;> (try simp only [decide_eq_true_eq, decide_eq_false_iff_not] at hg) <;> (try (exfalso; omega)))
 | (clear hK K)
          | fail)
        refine hK _ _ (j + 1) (by omega) (by omega) ?_ rfl
        simp only [junkAll, setAll, List.foldl_cons, List.foldl_nil, List.set_cons_succ, List.set_cons_zero, JL, true_or, or_true, and_true, true_and, reduceCtorEq, false_or, or_false, LV.int.injEq, LV.bool.injEq, LV.flt.injEq, LV.sl.injEq, LV.ptr.injEq, eq_self, Int.natCast_add, Int.natCast_one, Int.natCast_zero, Int.ofNat_zero]
      · have hje : j = 3 := by omega
        subst hje
        have hcs := cntA_succ (n := n) (s := s) hil
        have hos : ownA n s left (i + 1) = mixH n s (ix left i) 3 (fun _ => ((i : Nat) : Int)) (ownA n s left i) := rfl
        rw [hk] at hcs hos
        rw [hcs, ← hos]
        repeat' (first
 | ((with_reducible refine hK _ _ ?_); clear hK K)
 | ((first | (with_reducible show AOp _ _ _ _ _ _ _)); simp (disch := first | ((with_reducible show liveO _ _ _ = true); first | assumption | (exact liveO_atI oB0) | (exact liveO_atI oB1) | (exact liveO_atI (oC _ _)) | (exact liveO_setS (by assumption)) | (exact PtL.live (by assumption)) | (exact PtL.liveA (by assumption) _) | (simp only [go_sem]; done)) | omega | assumption | rfl | (simp only [go_sem]; first | done | omega)) only [go_sem, reduceIte, reduceCtorEq, Nat.reduceAdd, Nat.reduceMul, Nat.reduceSub, Nat.reduceLeDiff, Nat.lt_irrefl, Nat.reduceLT, Nat.reduceEqDiff, Nat.reduceBEq, Int.reduceLE, Int.reduceLT, Int.reduceToNat, w64, eq_self])
 | (with_reducible refine AW_seq (fun K hK => ?_))
 | (with_reducible refine AW_region tyOk ?_)
 | (with_reducible refine AOps_cons (fun K hK => ?_))
 | ((with_reducible refine AOps_nil ?_); try simp only [thenA, blockA, if_true, if_false, reduceIte, Nat.reduceEqDiff, reduceCtorEq])
 | (with_reducible refine AW_block ?_)
 | ((first | (with_reducible refine AW_ret ?_) | (with_reducible refine AW_skip ?_) | (with_reducible refine AW_exit ?_)); try simp only [thenA, blockA, if_true, if_false, reduceIte, Nat.reduceEqDiff, reduceCtorEq])
 | ((with_reducible show AW _ _ (.cond _ _ _) _ _ _); refine AW_cond rfl (fun hg => ?_) (fun hg => ?_) <;> first | (exfalso; simp only [reduceCtorEq] at hg; done) | ((try simp only [Bool.not_eq_true', Bool.not_eq_false', decide_eq_true_eq, decide_eq_false_iff_not] at hg); try (exfalso; omega)))
 | ((with_reducible show _ ∧ _); refine And.intro (fun hg => ?_) (fun hg => ?_) <;> (try simp only [Bool.not_eq_true', Bool.not_eq_false'] at hg) <;> simp only [hg] <;> (try simp only [decide_eq_true_eq, decide_eq_false_iff_not] at hg) <;> (try (exfalso; omega)))
 | (clear hK K)
          | fail)
        refine hK _ _ (i + 1, G3) (by simp only; omega) (by simp only; omega) ?_ rfl
        simp only [junkAll, setAll, List.foldl_cons, List.foldl_nil, List.set_cons_succ, List.set_cons_zero, JL, true_or, or_true, and_true, true_and, reduceCtorEq, false_or, or_false, LV.int.injEq, LV.bool.injEq, LV.flt.injEq, LV.sl.injEq, LV.ptr.injEq, eq_self, Int.natCast_add, Int.natCast_one, Int.natCast_zero, Int.ofNat_zero]
    · have hie : left.length = i := by omega
      rw [← hie]
      have hrm1 := hrm (cntA n s left left.length)
      have hrm2 := hrm (ownA n s left left.length)
      have hcnt : ∀ c, cntA n s left left.length c = ((holdL n s left c).length : Nat) := fun c => by unfold cntA; rw [List.take_length]
      repeat' (first
 | ((with_reducible refine hK _ _ ?_); clear hK K)
 | ((first | (with_reducible show AOp _ _ _ _ _ _ _)); simp (disch := first | ((with_reducible show liveO _ _ _ = true); first | assumption | (exact liveO_atI oB0) | (exact liveO_atI oB1) | (exact liveO_atI (oC _ _)) | (exact liveO_setS (by assumption)) | (exact PtL.live (by assumption)) | (exact PtL.liveA (by assumption) _) | (simp only [go_sem]; done)) | omega | assumption | rfl | (simp only [go_sem]; first | done | omega)) only [go_sem, reduceIte, reduceCtorEq, Nat.reduceAdd, Nat.reduceMul, Nat.reduceSub, Nat.reduceLeDiff, Nat.lt_irrefl, Nat.reduceLT, Nat.reduceEqDiff, Nat.reduceBEq, Int.reduceLE, Int.reduceLT, Int.reduceToNat, w64, eq_self, hrl.lenm, hlm2])
 | (with_reducible refine AW_seq (fun K hK => ?_))
 | (with_reducible refine AW_region tyOk ?_)
 | (with_reducible refine AOps_cons (fun K hK => ?_))
 | ((with_reducible refine AOps_nil ?_); try simp only [thenA, blockA, if_true, if_false, reduceIte, Nat.reduceEqDiff, reduceCtorEq])
 | (with_reducible refine AW_block ?_)
 | ((first | (with_reducible refine AW_ret ?_) | (with_reducible refine AW_skip ?_) | (with_reducible refine AW_exit ?_)); try simp only [thenA, blockA, if_true, if_false, reduceIte, Nat.reduceEqDiff, reduceCtorEq])
 | ((with_reducible show AW _ _ (.cond _ _ _) _ _ _); refine AW_cond rfl (fun hg => ?_) (fun hg => ?_) <;> first | (exfalso; simp only [reduceCtorEq] at hg; done) | ((try simp only [Bool.not_eq_true', Bool.not_eq_false', decide_eq_true_eq, decide_eq_false_iff_not] at hg); try (exfalso; omega)))
 | ((with_reducible show _ ∧ _); refine And.intro (fun hg => ?_) (fun hg => ?_) <;> (try simp only [Bool.not_eq_true', Bool.not_eq_false'] at hg) <;> simp only [hg] <;> (try simp only [decide_eq_true_eq, decide_eq_false_iff_not] at hg) <;> (try (exfalso; omega)))
 | (clear hK K)
        | fail)
      refine AW_loopV [18, 70, 71, 72, 73, 74, 75, 76, 77, 78, 79, 80, 81, 82] (fun a : Nat => [(18, .int .i64 (a : Nat))]) (fun a => B ++ (⟨0, false, 2, 1, (rowC M (cntA n s left left.length)).map (LV.int .i64)⟩ :: ⟨0, false, 3, 1, (rowC M (ownA n s left left.length)).map (LV.int .i64)⟩ :: G2)) (fun a => a ≤ M ∧ ∀ b, b < a → ((holdL n s left b).length == 1) = false) (fun a => M - a) 0 ⟨Nat.zero_le _, fun b hb => absurd hb (Nat.not_lt_zero _)⟩ ?_ rfl ?_
      · simp only [junkAll, setAll, List.foldl_cons, List.foldl_nil, List.set_cons_succ, List.set_cons_zero, JL, true_or, or_true, and_true, true_and, reduceCtorEq, false_or, or_false, LV.int.injEq, LV.bool.injEq, LV.flt.injEq, LV.sl.injEq, LV.ptr.injEq, eq_self, Int.natCast_add, Int.natCast_one, Int.natCast_zero, Int.ofNat_zero]
      intro a ⟨ha, hlow⟩ K hK
      simp only [junkAll, setAll, List.foldl_cons, List.foldl_nil, List.set_cons_succ, List.set_cons_zero]
      by_cases haM : a < M
      · have g1 := hcg (cntA n s left left.length) a haM
        rw [hcnt] at g1
        by_cases h1 : (holdL n s left a).length = 1
        · have hnq : ((((holdL n s left a).length : Nat) : Int) != 1) = false := by rw [h1]; rfl
          have hae : (((a : Nat) : Int) == ((M : Nat) : Int)) = false := by simp; omega
          repeat' (first
 | ((with_reducible refine hK _ _ ?_); clear hK K)
 | ((first | (with_reducible show AOp _ _ _ _ _ _ _)); simp (disch := first | ((with_reducible show liveO _ _ _ = true); first | assumption | (exact liveO_atI oB0) | (exact liveO_atI oB1) | (exact liveO_atI (oC _ _)) | (exact liveO_setS (by assumption)) | (exact PtL.live (by assumption)) | (exact PtL.liveA (by assumption) _) | (simp only [go_sem]; done)) | omega | assumption | rfl | (simp only [go_sem]; first | done | omega)) only [go_sem, reduceIte, reduceCtorEq, Nat.reduceAdd, Nat.reduceMul, Nat.reduceSub, Nat.reduceLeDiff, Nat.lt_irrefl, Nat.reduceLT, Nat.reduceEqDiff, Nat.reduceBEq, Int.reduceLE, Int.reduceLT, Int.reduceToNat, w64, eq_self, g1, hnq, hrm1, hae])
 | ((with_reducible refine AW_seqN [21] ?_ (fun K hK => ?_)); (exact rfl))
 | (with_reducible refine AW_region tyOk ?_)
 | (with_reducible refine AOps_cons (fun K hK => ?_))
 | ((with_reducible refine AOps_nil ?_); try simp only [thenA, blockA, if_true, if_false, reduceIte, Nat.reduceEqDiff, reduceCtorEq])
 | (with_reducible refine AW_block ?_)
 | ((first | (with_reducible refine AW_ret ?_) | (with_reducible refine AW_skip ?_) | (with_reducible refine AW_exit ?_)); try simp only [thenA, blockA, if_true, if_false, reduceIte, Nat.reduceEqDiff, reduceCtorEq])
 | ((with_reducible show AW _ _ (.cond _ _ _) _ _ _); refine AW_cond rfl (fun hg => ?_) (fun hg => ?_) <;> first | (exfalso; simp only [reduceCtorEq] at hg; done) | ((try simp only [Bool.not_eq_true', Bool.not_eq_false', decide_eq_true_eq, decide_eq_false_iff_not] at hg); try (exfalso; omega)))
 | ((with_reducible show _ ∧ _); refine And.intro (fun hg => ?_) (fun hg => ?_) <;> (try simp only [Bool.not_eq_true', Bool.not_eq_false'] at hg) <;> simp only [hg] <;> (try simp only [decide_eq_true_eq, decide_eq_false_iff_not] at hg) <;> (try (exfalso; omega)))
 | (clear hK K)
            | fail)
          have hone : oneI n s left = (a : Nat) := by
            unfold oneI
            refine idxF_at (by rw [holdR_len, hM]; exact haM) (by rw [holdR_ix _ _ _ (by rw [hM]; exact haM)]; simpa using h1) fun j hj => ?_
            rw [holdR_ix _ _ _ (by rw [hM]; omega)]
            exact hlow j hj
          obtain ⟨c, i, hc, hcM, hil, hhl, honly, hflt, -⟩ := oneI_key (n := n) (s := s) hG.nd (by omega)
          obtain rfl : c = a := by omega
          have hG' := hG.step hrL hone hcM hil hhl hflt
          have hown : ownA n s left left.length c = (i : Nat) := by rw [ownA_one honly _ (Nat.le_refl _), if_pos hil]
          have g2 := hcg (ownA n s left left.length) c haM
          rw [hown] at g2
          repeat' (first
 | ((with_reducible refine hK _ _ ?_); clear hK K)
 | ((first | (with_reducible show AOp _ _ _ _ _ _ _)); simp (disch := first | ((with_reducible show liveO _ _ _ = true); first | assumption | (exact liveO_atI oB0) | (exact liveO_atI oB1) | (exact liveO_atI (oC _ _)) | (exact liveO_setS (by assumption)) | (exact PtL.live (by assumption)) | (exact PtL.liveA (by assumption) _) | (simp only [go_sem]; done)) | omega | assumption | rfl | (simp only [go_sem]; first | done | omega)) only [go_sem, reduceIte, reduceCtorEq, Nat.reduceAdd, Nat.reduceMul, Nat.reduceSub, Nat.reduceLeDiff, Nat.lt_irrefl, Nat.reduceLT, Nat.reduceEqDiff, Nat.reduceBEq, Int.reduceLE, Int.reduceLT, Int.reduceToNat, w64, eq_self, g2, hrm2])
 | ((with_reducible refine AW_seqN [22] ?_ (fun K hK => ?_)); (exact rfl))
 | (with_reducible refine AW_region tyOk ?_)
 | (with_reducible refine AOps_cons (fun K hK => ?_))
 | ((with_reducible refine AOps_nil ?_); try simp only [thenA, blockA, if_true, if_false, reduceIte, Nat.reduceEqDiff, reduceCtorEq])
 | (with_reducible refine AW_block ?_)
 | ((first | (with_reducible refine AW_ret ?_) | (with_reducible refine AW_skip ?_) | (with_reducible refine AW_exit ?_)); try simp only [thenA, blockA, if_true, if_false, reduceIte, Nat.reduceEqDiff, reduceCtorEq])
 | ((with_reducible show AW _ _ (.cond _ _ _) _ _ _); refine AW_cond rfl (fun hg => ?_) (fun hg => ?_) <;> first | (exfalso; simp only [reduceCtorEq] at hg; done) | ((try simp only [Bool.not_eq_true', Bool.not_eq_false', decide_eq_true_eq, decide_eq_false_iff_not] at hg); try (exfalso; omega)))
 | ((with_reducible show _ ∧ _); refine And.intro (fun hg => ?_) (fun hg => ?_) <;> (try simp only [Bool.not_eq_true', Bool.not_eq_false'] at hg) <;> simp only [hg] <;> (try simp only [decide_eq_true_eq, decide_eq_false_iff_not] at hg) <;> (try (exfalso; omega)))
 | (clear hK K)
            | fail)
          have hBX2 : B ++ ((⟨0, false, 2, 1, (rowC M (cntA n s left left.length)).map (LV.int .i64)⟩ : AO) :: ⟨0, false, 3, 1, (rowC M (ownA n s left left.length)).map (LV.int .i64)⟩ :: G2) = H ++ (⟨vl, false, 2, 1, left.map (LV.int .i64)⟩ :: ⟨vo, false, 2, 1, o.map (LV.int .i64)⟩ :: ⟨vt, false, 2, 1, t.map (LV.int .i64)⟩ :: (G ++ (⟨0, false, 2, 1, (rowC M (cntA n s left left.length)).map (LV.int .i64)⟩ :: ⟨0, false, 3, 1, (rowC M (ownA n s left left.length)).map (LV.int .i64)⟩ :: G2))) := by rw [← hB]; simp
          rw [hBX2]
          obtain ⟨G5, hG5⟩ : ∃ G5, G ++ ((⟨0, false, 2, 1, (rowC M (cntA n s left left.length)).map (LV.int .i64)⟩ : AO) :: ⟨0, false, 3, 1, (rowC M (ownA n s left left.length)).map (LV.int .i64)⟩ :: G2) = G5 := ⟨_, rfl⟩
          rw [hG5]
          clear hBX2 hG5 g2 hrm2 hrm1 g1 hz1 hz2 hrl oB0
          obtain ⟨k, hk⟩ : ∃ k, ix left i = k := ⟨_, rfl⟩
          rw [hk] at hG'
          have hgl := int_get hil
          rw [hk] at hgl
          repeat' (first
 | ((with_reducible refine hK _ _ ?_); clear hK K)
 | ((first | (with_reducible show AOp _ _ _ _ _ _ _)); simp (disch := first | ((with_reducible show liveO _ _ _ = true); first | assumption | (exact liveO_atI oB0) | (exact liveO_atI oB1) | (exact liveO_atI (oC _ _)) | (exact liveO_setS (by assumption)) | (exact PtL.live (by assumption)) | (exact PtL.liveA (by assumption) _) | (simp only [go_sem]; done)) | omega | assumption | rfl | (simp only [go_sem]; first | done | omega)) only [go_sem, reduceIte, reduceCtorEq, Nat.reduceAdd, Nat.reduceMul, Nat.reduceSub, Nat.reduceLeDiff, Nat.lt_irrefl, Nat.reduceLT, Nat.reduceEqDiff, Nat.reduceBEq, Int.reduceLE, Int.reduceLT, Int.reduceToNat, w64, eq_self, hgl, hlm2, hom, int_cells])
 | ((with_reducible refine AW_seqN [23] ?_ (fun K hK => ?_)); (exact rfl))
 | (with_reducible refine AW_region tyOk ?_)
 | (with_reducible refine AOps_cons (fun K hK => ?_))
 | ((with_reducible refine AOps_nil ?_); try simp only [thenA, blockA, if_true, if_false, reduceIte, Nat.reduceEqDiff, reduceCtorEq])
 | (with_reducible refine AW_block ?_)
 | ((first | (with_reducible refine AW_ret ?_) | (with_reducible refine AW_skip ?_) | (with_reducible refine AW_exit ?_)); try simp only [thenA, blockA, if_true, if_false, reduceIte, Nat.reduceEqDiff, reduceCtorEq])
 | ((with_reducible show AW _ _ (.cond _ _ _) _ _ _); refine AW_cond rfl (fun hg => ?_) (fun hg => ?_) <;> first | (exfalso; simp only [reduceCtorEq] at hg; done) | ((try simp only [Bool.not_eq_true', Bool.not_eq_false', decide_eq_true_eq, decide_eq_false_iff_not] at hg); try (exfalso; omega)))
 | ((with_reducible show _ ∧ _); refine And.intro (fun hg => ?_) (fun hg => ?_) <;> (try simp only [Bool.not_eq_true', Bool.not_eq_false'] at hg) <;> simp only [hg] <;> (try simp only [decide_eq_true_eq, decide_eq_false_iff_not] at hg) <;> (try (exfalso; omega)))
 | (clear hK K)
            | fail)
          repeat' (first
 | ((with_reducible refine hK _ _ ?_); clear hK K)
 | ((first | (with_reducible show AOp _ _ _ _ _ _ _)); simp (disch := first | ((with_reducible show liveO _ _ _ = true); first | assumption | (exact liveO_atI oB0) | (exact liveO_atI oB1) | (exact liveO_atI (oC _ _)) | (exact liveO_setS (by assumption)) | (exact PtL.live (by assumption)) | (exact PtL.liveA (by assumption) _) | (simp only [go_sem]; done)) | omega | assumption | rfl | (simp only [go_sem]; first | done | omega)) only [go_sem, reduceIte, reduceCtorEq, Nat.reduceAdd, Nat.reduceMul, Nat.reduceSub, Nat.reduceLeDiff, Nat.lt_irrefl, Nat.reduceLT, Nat.reduceEqDiff, Nat.reduceBEq, Int.reduceLE, Int.reduceLT, Int.reduceToNat, w64, eq_self, htm, int_cells])
 | ((with_reducible refine AW_seqN [24] ?_ (fun K hK => ?_)); (exact rfl))
 | (with_reducible refine AW_region tyOk ?_)
 | (with_reducible refine AOps_cons (fun K hK => ?_))
 | ((with_reducible refine AOps_nil ?_); try simp only [thenA, blockA, if_true, if_false, reduceIte, Nat.reduceEqDiff, reduceCtorEq])
 | (with_reducible refine AW_block ?_)
 | ((first | (with_reducible refine AW_ret ?_) | (with_reducible refine AW_skip ?_) | (with_reducible refine AW_exit ?_)); try simp only [thenA, blockA, if_true, if_false, reduceIte, Nat.reduceEqDiff, reduceCtorEq])
 | ((with_reducible show AW _ _ (.cond _ _ _) _ _ _); refine AW_cond rfl (fun hg => ?_) (fun hg => ?_) <;> first | (exfalso; simp only [reduceCtorEq] at hg; done) | ((try simp only [Bool.not_eq_true', Bool.not_eq_false', decide_eq_true_eq, decide_eq_false_iff_not] at hg); try (exfalso; omega)))
 | ((with_reducible show _ ∧ _); refine And.intro (fun hg => ?_) (fun hg => ?_) <;> (try simp only [Bool.not_eq_true', Bool.not_eq_false'] at hg) <;> simp only [hg] <;> (try simp only [decide_eq_true_eq, decide_eq_false_iff_not] at hg) <;> (try (exfalso; omega)))
 | (clear hK K)
            | fail)
          obtain ⟨m, hm⟩ : ∃ m, left.length = m := ⟨_, rfl⟩
          obtain ⟨G6, hG6⟩ : ∃ G6, G5 ++ [(⟨0, false, 2, 1, [.int .i64 k]⟩ : AO), ⟨0, false, 2, 1, [.int .i64 (c : Nat)]⟩] = G6 := ⟨_, rfl⟩
          rw [hG6]
          obtain ⟨Y, hY⟩ : ∃ Y, H ++ ((⟨vl, false, 2, 1, left.map (LV.int .i64)⟩ : AO) :: ⟨vo + 1, false, 2, 1, o.map (LV.int .i64) ++ [.int .i64 k]⟩ :: ⟨vt + 1, false, 2, 1, t.map (LV.int .i64) ++ [.int .i64 (c : Nat)]⟩ :: G6) = Y := ⟨_, rfl⟩
          have oY : Y[H.length]? = some ⟨vl, false, 2, 1, left.map (LV.int .i64)⟩ := by rw [← hY]; exact (hp_get0 _ _).trans rfl
          have hlY : liveO Y H.length vl = true := liveO_atI oY
          have szY : szO Y H.length = 1 := by simp [szO, oY]
          have sl1 : ∀ te : TE, te.sz = 1 → asliceS te Y (.sl H.length vl 0 left.length none) none (some (.int .i64 (i : Nat))) none = some (.sl H.length vl 0 i none) := fun te hs => by
            rw [asliceS_hi hlY (by rw [szY, hs]) (by omega) (by omega), Int.toNat_natCast]
          have sl2 : ∀ te : TE, te.sz = 1 → asliceS te Y (.sl H.length vl 0 left.length none) (some (.int .i64 ((i : Int) + 1))) none none = some (.sl H.length vl (i + 1) (left.length - (i + 1)) none) := fun te hs => by
            rw [asliceS_lo hlY (by rw [szY, hs]) (by omega) (by omega), hs, show ((i : Int) + 1).toNat = i + 1 by omega, Nat.zero_add, Nat.mul_one]
          have hce : cellsOf Y 1 (.sl H.length vl (i + 1) (left.length - (i + 1)) none) = some ((left.map (LV.int .i64)).drop (i + 1)) := by
            simp only [cellsOf, Nat.mul_one, hgets, oY]
            have q1 : i + 1 + (left.length - (i + 1)) ≤ (left.map (LV.int .i64)).length := by omega
            simp only [q1, and_self, ite_true, reduceIte]
            rw [List.take_of_length_le (by rw [List.length_drop, hlm2]; exact Nat.le_refl _)]
          have hle : left.length - (i + 1) + i = left.length - 1 := by omega
          have hfl : (left.filter fun x => !(x == k)).length = left.length - 1 := by have := hG'.len; omega
          have hfm : (left.map (LV.int .i64)).take i ++ (left.map (LV.int .i64)).drop (i + 1) = (left.filter fun x => !(x == k)).map (LV.int .i64) := by
            rw [← hk, hflt, List.map_append, List.map_take, List.map_drop]
          have hca : ((left.map (LV.int .i64)).drop (i + 1)).all LV.isCell = true := by rw [← List.map_drop]; exact int_cells _
          have hap : ∀ te : TE, te.sz = 1 → te.by_ = 8 → aappO te 2 Y H.length vl 0 i none (left.length - (i + 1)) ((left.map (LV.int .i64)).drop (i + 1)) (some ⟨vl, false, 2, 1, left.map (LV.int .i64)⟩) = some (.sl H.length vl 0 (left.length - 1) none, Y.set H.length ⟨vl, false, 2, 1, (left.filter fun x => !(x == k)).map (LV.int .i64) ++ (left.map (LV.int .i64)).drop (left.length - 1)⟩) := by
            intro te hs hby
            unfold aappO
            simp only [hs, hby]
            rw [if_neg (by simp), if_neg (by simp), if_neg (by simp), if_neg (by simp), if_pos (by omega), Nat.zero_add, Nat.mul_one, sets_left _ (by omega), hfm, hlm2, show i + (left.length - (i + 1)) = left.length - 1 by omega]
          rw [hY]
          repeat' (first
 | ((with_reducible refine hK _ _ ?_); clear hK K)
 | ((with_reducible refine hK _ ?_); clear hK K; try simp only [])
 | ((first | (with_reducible show AOp _ _ _ _ _ _ _) | (with_reducible show AQOp _ _ _ _ _ _ _)); simp (disch := first | ((with_reducible show liveO _ _ _ = true); first | assumption | (exact liveO_atI oB0) | (exact liveO_atI oB1) | (exact liveO_atI (oC _ _)) | (exact liveO_setS (by assumption)) | (exact PtL.live (by assumption)) | (exact PtL.liveA (by assumption) _) | (simp only [go_sem]; done)) | omega | assumption | rfl | (simp only [go_sem]; first | done | omega)) only [go_sem, reduceIte, reduceCtorEq, Nat.reduceAdd, Nat.reduceMul, Nat.reduceSub, Nat.reduceLeDiff, Nat.lt_irrefl, Nat.reduceLT, Nat.reduceEqDiff, Nat.reduceBEq, Int.reduceLE, Int.reduceLT, Int.reduceToNat, w64, eq_self, oY, sl1, sl2, hce, hca, hap])
 | (with_reducible refine AW_seq (fun K hK => ?_))
 | (with_reducible refine AW_region tyOk ?_)
 | ((with_reducible refine AW_drawn (id := 24) tyOk 7 ?_ ?_ ?_); (kernel_rfl); (kernel_rfl); simp only [List.take_succ_cons, List.take_zero, List.drop_succ_cons, List.drop_zero])
 | (with_reducible refine AOps_cons (fun K hK => ?_))
 | (with_reducible refine AQOps_cons (fun K hK => ?_))
 | ((with_reducible refine AQOps_nil ?_); try simp only [thenA, blockA, if_true, if_false, reduceIte, Nat.reduceEqDiff, reduceCtorEq])
 | ((with_reducible refine AOps_nil ?_); try simp only [thenA, blockA, if_true, if_false, reduceIte, Nat.reduceEqDiff, reduceCtorEq])
 | (with_reducible refine AW_block ?_)
 | ((first | (with_reducible refine AW_ret ?_) | (with_reducible refine AW_skip ?_) | (with_reducible refine AW_exit ?_)); try simp only [thenA, blockA, if_true, if_false, reduceIte, Nat.reduceEqDiff, reduceCtorEq])
 | ((with_reducible show AW _ _ (.cond _ _ _) _ _ _); refine AW_cond rfl (fun hg => ?_) (fun hg => ?_) <;> first | (exfalso; simp only [reduceCtorEq] at hg; done) | ((try simp only [Bool.not_eq_true', Bool.not_eq_false', decide_eq_true_eq, decide_eq_false_iff_not] at hg); try (exfalso; omega)))
 | ((with_reducible show _ ∧ _); refine And.intro (fun hg => ?_) (fun hg => ?_) <;> (try simp only [Bool.not_eq_true', Bool.not_eq_false'] at hg) <;> simp only [hg] <;> (try simp only [decide_eq_true_eq, decide_eq_false_iff_not] at hg) <;> (try (exfalso; omega)))
 | (clear hK K)
            | fail)
          refine hK _ _ (r + 1, (vl, vo + 1, vt + 1), (left.filter (fun x => !(x == k)), o ++ [k], t ++ [(c : Int)]), (left.map (LV.int .i64)).drop (left.length - 1), G6) ⟨by simp only; omega, hG'⟩ (by simp only; omega) ?_ ?_
          · simp only [junkAll, setAll, List.foldl_cons, List.foldl_nil, List.set_cons_succ, List.set_cons_zero, JL, true_or, or_true, and_true, true_and, reduceCtorEq, false_or, or_false, LV.int.injEq, LV.bool.injEq, LV.flt.injEq, LV.sl.injEq, LV.ptr.injEq, eq_self, Int.natCast_add, Int.natCast_one, Int.natCast_zero, Int.ofNat_zero]
            rw [hfl]
          · rw [← hY, hp_set0, List.set_cons_zero]
            simp only [List.map_append, List.map_cons, List.map_nil]
        · have hnq : ((((holdL n s left a).length : Nat) : Int) != 1) = true := by simp; omega
          repeat' (first
 | ((with_reducible refine hK _ _ ?_); clear hK K)
 | ((first | (with_reducible show AOp _ _ _ _ _ _ _)); simp (disch := first | ((with_reducible show liveO _ _ _ = true); first | assumption | (exact liveO_atI oB0) | (exact liveO_atI oB1) | (exact liveO_atI (oC _ _)) | (exact liveO_setS (by assumption)) | (exact PtL.live (by assumption)) | (exact PtL.liveA (by assumption) _) | (simp only [go_sem]; done)) | omega | assumption | rfl | (simp only [go_sem]; first | done | omega)) only [go_sem, reduceIte, reduceCtorEq, Nat.reduceAdd, Nat.reduceMul, Nat.reduceSub, Nat.reduceLeDiff, Nat.lt_irrefl, Nat.reduceLT, Nat.reduceEqDiff, Nat.reduceBEq, Int.reduceLE, Int.reduceLT, Int.reduceToNat, w64, eq_self, g1, hnq, hrm1])
 | (with_reducible refine AW_seq (fun K hK => ?_))
 | (with_reducible refine AW_region tyOk ?_)
 | (with_reducible refine AOps_cons (fun K hK => ?_))
 | ((with_reducible refine AOps_nil ?_); try simp only [thenA, blockA, if_true, if_false, reduceIte, Nat.reduceEqDiff, reduceCtorEq])
 | (with_reducible refine AW_block ?_)
 | ((first | (with_reducible refine AW_ret ?_) | (with_reducible refine AW_skip ?_) | (with_reducible refine AW_exit ?_)); try simp only [thenA, blockA, if_true, if_false, reduceIte, Nat.reduceEqDiff, reduceCtorEq])
 | ((with_reducible show AW _ _ (.cond _ _ _) _ _ _); refine AW_cond rfl (fun hg => ?_) (fun hg => ?_) <;> first | (exfalso; simp only [reduceCtorEq] at hg; done) | ((try simp only [Bool.not_eq_true', Bool.not_eq_false', decide_eq_true_eq, decide_eq_false_iff_not] at hg); try (exfalso; omega)))
 | ((with_reducible show _ ∧ _); refine And.intro (fun hg => ?_) (fun hg => ?_) <;> (try simp only [Bool.not_eq_true', Bool.not_eq_false'] at hg) <;> simp only [hg] <;> (try simp only [decide_eq_true_eq, decide_eq_false_iff_not] at hg) <;> (try (exfalso; omega)))
 | (clear hK K)
            | fail)
          refine hK _ _ (a + 1) ⟨by omega, lt_succ_cases hlow (by simpa using h1)⟩ (by omega) ?_ rfl
          simp only [junkAll, setAll, List.foldl_cons, List.foldl_nil, List.set_cons_succ, List.set_cons_zero, JL, true_or, or_true, and_true, true_and, reduceCtorEq, false_or, or_false, LV.int.injEq, LV.bool.injEq, LV.flt.injEq, LV.sl.injEq, LV.ptr.injEq, eq_self, Int.natCast_add, Int.natCast_one, Int.natCast_zero, Int.ofNat_zero]
      · have hae : a = M := by omega
        have hone : oneI n s left = -1 := by
          unfold oneI
          refine idxF_none fun j hj => ?_
          rw [holdR_len, hM] at hj
          rw [holdR_ix _ _ _ (by rw [hM]; exact hj)]
          exact hlow j (by omega)
        have hRn := hG.none hrL (by omega)
        have hbe : (((a : Nat) : Int) == ((M : Nat) : Int)) = true := by rw [hae]; simp
        repeat' (first
 | ((with_reducible refine hK _ _ ?_); clear hK K)
 | ((first | (with_reducible show AOp _ _ _ _ _ _ _)); simp (disch := first | ((with_reducible show liveO _ _ _ = true); first | assumption | (exact liveO_atI oB0) | (exact liveO_atI oB1) | (exact liveO_atI (oC _ _)) | (exact liveO_setS (by assumption)) | (exact PtL.live (by assumption)) | (exact PtL.liveA (by assumption) _) | (simp only [go_sem]; done)) | omega | assumption | rfl | (simp only [go_sem]; first | done | omega)) only [go_sem, reduceIte, reduceCtorEq, Nat.reduceAdd, Nat.reduceMul, Nat.reduceSub, Nat.reduceLeDiff, Nat.lt_irrefl, Nat.reduceLT, Nat.reduceEqDiff, Nat.reduceBEq, Int.reduceLE, Int.reduceLT, Int.reduceToNat, w64, eq_self, hbe])
 | (with_reducible refine AW_seq (fun K hK => ?_))
 | (with_reducible refine AW_region tyOk ?_)
 | (with_reducible refine AOps_cons (fun K hK => ?_))
 | ((with_reducible refine AOps_nil ?_); try simp only [thenA, blockA, if_true, if_false, reduceIte, Nat.reduceEqDiff, reduceCtorEq])
 | (with_reducible refine AW_block ?_)
 | ((first | (with_reducible refine AW_ret ?_) | (with_reducible refine AW_skip ?_) | (with_reducible refine AW_exit ?_)); try simp only [thenA, blockA, if_true, if_false, reduceIte, Nat.reduceEqDiff, reduceCtorEq])
 | ((with_reducible show AW _ _ (.cond _ _ _) _ _ _); refine AW_cond rfl (fun hg => ?_) (fun hg => ?_) <;> first | (exfalso; simp only [reduceCtorEq] at hg; done) | ((try simp only [Bool.not_eq_true', Bool.not_eq_false', decide_eq_true_eq, decide_eq_false_iff_not] at hg); try (exfalso; omega)))
 | ((with_reducible show _ ∧ _); refine And.intro (fun hg => ?_) (fun hg => ?_) <;> (try simp only [Bool.not_eq_true', Bool.not_eq_false'] at hg) <;> simp only [hg] <;> (try simp only [decide_eq_true_eq, decide_eq_false_iff_not] at hg) <;> (try (exfalso; omega)))
 | (clear hK K)
          | fail)
        rw [← hB]
        rw [List.append_assoc]
        refine EndA_cut (r := .tup [.nils, .nils, .bool false]) hcl (by first | exact Or.inr rfl | exact Or.inl rfl) (by simp only [Try.results14, resA, aresL, go_sem] <;> rfl) rfl ?_
        rw [hRn]; exact ⟨rfl, rfl⟩
  · have hl0 : left = [] := List.eq_nil_of_length_eq_zero (by omega)
    have hrL2 : r = L := by omega
    subst hrL2
    have hRe : R = some (o, t) := by rw [← hG.eq, Nat.sub_self]; rfl
    subst hl0
    repeat' (first
 | ((with_reducible refine hK _ _ ?_); clear hK K)
 | ((first | (with_reducible show AOp _ _ _ _ _ _ _)); simp (disch := first | ((with_reducible show liveO _ _ _ = true); first | assumption | (exact liveO_atI oB0) | (exact liveO_atI oB1) | (exact liveO_atI (oC _ _)) | (exact liveO_setS (by assumption)) | (exact PtL.live (by assumption)) | (exact PtL.liveA (by assumption) _) | (simp only [go_sem]; done)) | omega | assumption | rfl | (simp only [go_sem]; first | done | omega)) only [go_sem, reduceIte, reduceCtorEq, Nat.reduceAdd, Nat.reduceMul, Nat.reduceSub, Nat.reduceLeDiff, Nat.lt_irrefl, Nat.reduceLT, Nat.reduceEqDiff, Nat.reduceBEq, Int.reduceLE, Int.reduceLT, Int.reduceToNat, w64, eq_self, hlo, hlt])
 | (with_reducible refine AW_seq (fun K hK => ?_))
 | (with_reducible refine AW_region tyOk ?_)
 | (with_reducible refine AOps_cons (fun K hK => ?_))
 | ((with_reducible refine AOps_nil ?_); try simp only [thenA, blockA, if_true, if_false, reduceIte, Nat.reduceEqDiff, reduceCtorEq])
 | (with_reducible refine AW_block ?_)
 | ((first | (with_reducible refine AW_ret ?_) | (with_reducible refine AW_skip ?_) | (with_reducible refine AW_exit ?_)); try simp only [thenA, blockA, if_true, if_false, reduceIte, Nat.reduceEqDiff, reduceCtorEq])
 | ((with_reducible show AW _ _ (.cond _ _ _) _ _ _); refine AW_cond rfl (fun hg => ?_) (fun hg => ?_) <;> first | (exfalso; simp only [reduceCtorEq] at hg; done) | ((try simp only [Bool.not_eq_true', Bool.not_eq_false', decide_eq_true_eq, decide_eq_false_iff_not] at hg); try (exfalso; omega)))
 | ((with_reducible show _ ∧ _); refine And.intro (fun hg => ?_) (fun hg => ?_) <;> (try simp only [Bool.not_eq_true', Bool.not_eq_false'] at hg) <;> simp only [hg] <;> (try simp only [decide_eq_true_eq, decide_eq_false_iff_not] at hg) <;> (try (exfalso; omega)))
 | ((with_reducible apply FunH_intro); (first | exact l04Three_c _ _ _ (by first | assumption | omega | (simp; omega) | (simp; done)) (by first | assumption | omega | (simp; omega) | (simp; done)) (by first | assumption | omega | (simp; omega) | (simp; done)) _))
 | (clear hK K)
      | fail)
    subst hRe
    refine EndA_rows [some 1, some 2] hcl (by first | exact Or.inr rfl | exact Or.inl rfl) (by simp only [Try.results14, resA, aresL, go_sem] <;> rfl) (by simp) ?_ ?_ ⟨rfl, rfl⟩
    · refine ⟨RowOk.eq (rfl : _ = some _) rfl (scal_int _ _), RowOk.eq (rfl : _ = some _) rfl (scal_int _ _), trivial⟩
    · refine TdT.tup ⟨TdL.cell ?_, TdL.cell ?_, TdL.cell ?_, trivial⟩
      · rw [hlo]; exact TdB.own 0 1 _ _ _ _ rfl _ rfl rfl
      · rw [hlt]; exact TdB.own 1 2 _ _ _ _ rfl _ rfl rfl
      · exact TdB.old _ trivial rfl
end Go.Proofs.Ytkihedabakckeaa
