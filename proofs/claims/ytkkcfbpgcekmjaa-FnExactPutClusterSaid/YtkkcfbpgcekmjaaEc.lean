/- Neighbours of clusters joined, in the abstract machine. -/
import Derived.Test.YtkkcfbpgcekmjaaCc
namespace Go.Proofs.Ytkkcfbpgcekmjaa
open Go.RowKit
set_option linter.unusedSimpArgs false
set_option linter.unusedVariables false
set_option maxRecDepth 100000

def nF (n : Int) : Option Nat := some (FloatKind.f32.nearest n)
/-- The counts from s to i - 1. -/
def cB (cs : List Int) (s i : Nat) : Int := sumI (cs.take i) - sumI (cs.take s)
def shBoth (cs : List Int) (s i : Nat) : Option Nat := nF (cB cs s i + ix cs i)
def shQ (N : Option Nat) (cs : List Int) (s i : Nat) : Option Nat := opC .quo .f32 (opC .add .f32 (nF (sumI (cs.take s))) (opC .mul .f32 (some 1056964608) (shBoth cs s i))) N
def shLim (N : Option Nat) (r : Int) (cs : List Int) (s i : Nat) : Option Nat :=
  opC .quo .f32 (opC .mul .f32 (opC .mul .f32 (opC .mul .f32 (some 1082130432) N) (shQ N cs s i)) (opC .sub .f32 (some 1065353216) (shQ N cs s i))) (nF r)
def shT (N : Option Nat) (r : Int) (cs : List Int) (s i : Nat) : Bool := fLe .f32 (shBoth cs s i) (shLim N r cs s i)
def shJ0 (ms : List (Option Nat)) (cs : List Int) (s i : Nat) (m : Option Nat) : Option Nat :=
  opC .quo .f32 (opC .add .f32 (opC .mul .f32 m (nF (cB cs s i))) (opC .mul .f32 (ix ms i) (nF (ix cs i)))) (shBoth cs s i)
def clampHi (j n : Option Nat) : Option Nat := if fGt .f32 j n then n else j
def clampLo (j m : Option Nat) : Option Nat := if fLt .f32 j m then m else j
def shJ (ms : List (Option Nat)) (cs : List Int) (s i : Nat) (m : Option Nat) : Option Nat := clampLo (clampHi (shJ0 ms cs s i m) (ix ms i)) m
def shI (N : Option Nat) (r : Int) (ms : List (Option Nat)) (cs : List Int) (s : Nat) : Nat → Nat → Option Nat → Nat × Option Nat
  | 0, i, m => (i, m)
  | f + 1, i, m => if i < ms.length ∧ shT N r cs s i = true then shI N r ms cs s f (i + 1) (shJ ms cs s i m) else (i, m)
def shO (N : Option Nat) (r : Int) (ms : List (Option Nat)) (cs : List Int) : Nat → Nat → List (Option Nat) → List Int → List (Option Nat) × List Int
  | 0, i, aM, aC => (aM, aC)
  | f + 1, i, aM, aC => if i < ms.length then
      shO N r ms cs f (shI N r ms cs i ms.length (i + 1) (ix ms i)).1 (aM ++ [(shI N r ms cs i ms.length (i + 1) (ix ms i)).2]) (aC ++ [cB cs i (shI N r ms cs i ms.length (i + 1) (ix ms i)).1])
    else (aM, aC)
def shR (r : Int) (ms : List (Option Nat)) (cs : List Int) : List (Option Nat) × List Int := shO (nF (sumI cs)) r ms cs ms.length 0 [] []
theorem shI_in (N : Option Nat) (r : Int) (ms : List (Option Nat)) (cs : List Int) (s : Nat) : ∀ (f i : Nat) (m : Option Nat), i ≤ ms.length → i ≤ (shI N r ms cs s f i m).1 ∧ (shI N r ms cs s f i m).1 ≤ ms.length
  | 0, i, m, h => ⟨Nat.le_refl _, h⟩
  | f + 1, i, m, h => by
    rw [shI]
    split
    · rename_i hc
      have := shI_in N r ms cs s f (i + 1) (shJ ms cs s i m) (by omega)
      omega
    · exact ⟨Nat.le_refl _, h⟩
theorem shI_stop {N : Option Nat} {r : Int} {ms : List (Option Nat)} {cs : List Int} {s f i : Nat} {m : Option Nat} (h : ¬ (i < ms.length ∧ shT N r cs s i = true)) : shI N r ms cs s f i m = (i, m) := by
  cases f with
  | zero => rfl
  | succ f => rw [shI, if_neg h]
theorem shI_more {N : Option Nat} {r : Int} {ms : List (Option Nat)} {cs : List Int} {s f i : Nat} {m : Option Nat} (hf : ms.length - i ≤ f) (h1 : i < ms.length) (h2 : shT N r cs s i = true) : ∃ g, f = g + 1 ∧ ms.length - (i + 1) ≤ g ∧ shI N r ms cs s f i m = shI N r ms cs s g (i + 1) (shJ ms cs s i m) := by
  cases f with
  | zero => omega
  | succ f => exact ⟨f, rfl, by omega, by rw [shI, if_pos ⟨h1, h2⟩]⟩
theorem shO_stop {N : Option Nat} {r : Int} {ms : List (Option Nat)} {cs : List Int} {f i : Nat} {aM : List (Option Nat)} {aC : List Int} (h : ¬ i < ms.length) : shO N r ms cs f i aM aC = (aM, aC) := by
  cases f with
  | zero => rfl
  | succ f => rw [shO, if_neg h]
theorem shO_more {N : Option Nat} {r : Int} {ms : List (Option Nat)} {cs : List Int} {f i : Nat} {aM : List (Option Nat)} {aC : List Int} (hf : ms.length - i ≤ f) (h1 : i < ms.length) {j : Nat} {m : Option Nat}
    (hj : shI N r ms cs i ms.length (i + 1) (ix ms i) = (j, m)) : ∃ g, f = g + 1 ∧ ms.length - j ≤ g ∧ shO N r ms cs f i aM aC = shO N r ms cs g j (aM ++ [m]) (aC ++ [cB cs i j]) := by
  have hi := shI_in N r ms cs i ms.length (i + 1) (ix ms i) (by omega)
  rw [hj] at hi
  cases f with
  | zero => omega
  | succ f => exact ⟨f, rfl, by simp only at hi; omega, by rw [shO, if_pos h1, hj]⟩
theorem shO_len {N : Option Nat} {r : Int} {ms : List (Option Nat)} {cs : List Int} : ∀ (f i : Nat) (aM : List (Option Nat)) (aC : List Int), i ≤ ms.length → aM.length = aC.length → aM.length ≤ i → (shO N r ms cs f i aM aC).1.length = (shO N r ms cs f i aM aC).2.length ∧ (shO N r ms cs f i aM aC).1.length ≤ ms.length
  | 0, i, aM, aC, h0, h1, h2 => ⟨h1, by show aM.length ≤ _; omega⟩
  | f + 1, i, aM, aC, h0, h1, h2 => by
    rw [shO]
    split
    · rename_i hi
      have := shI_in N r ms cs i ms.length (i + 1) (ix ms i) (by omega)
      exact shO_len f _ _ _ this.2 (by simp; omega) (by simp; omega)
    · exact ⟨h1, by show aM.length ≤ _; omega⟩
theorem shR_len (r : Int) (ms : List (Option Nat)) (cs : List Int) : (shR r ms cs).1.length = (shR r ms cs).2.length ∧ (shR r ms cs).1.length ≤ ms.length := shO_len _ _ _ _ (Nat.zero_le _) rfl (Nat.zero_le _)
theorem cB_self (cs : List Int) (s : Nat) : cB cs s s = 0 := Int.sub_self _
theorem cB_one {cs : List Int} {s : Nat} (h : s < cs.length) : cB cs s (s + 1) = ix cs s := by unfold cB; rw [sumI_take h]; omega
theorem cB_succ {cs : List Int} {s i : Nat} (h : i < cs.length) : cB cs s i + ix cs i = cB cs s (i + 1) := by unfold cB; rw [sumI_take h]; omega
theorem sumI_mono {xs : List Int} (hb : ∀ x ∈ xs, 0 ≤ x) : ∀ d s, s + d ≤ xs.length → sumI (xs.take s) ≤ sumI (xs.take (s + d))
  | 0, s, h => Int.le_refl _
  | d + 1, s, h => by
    have h1 := sumI_mono hb d s (by omega)
    have h2 := hb _ (ix_mem xs (s + d) (by omega))
    rw [show s + (d + 1) = s + d + 1 by omega, sumI_take (by omega)]
    omega
theorem cB_in {cs : List Int} (hb : ∀ x ∈ cs, 1 ≤ x ∧ x ≤ 1000000) (ht : sumI cs ≤ 1000001) {s i : Nat} (hs : s ≤ i) (hi : i ≤ cs.length) : 0 ≤ cB cs s i ∧ cB cs s i ≤ 1000001 ∧ 0 ≤ sumI (cs.take s) ∧ sumI (cs.take s) ≤ 1000001 ∧ sumI (cs.take i) ≤ 1000001 := by
  have a1 := sumI_mono (xs := cs) (fun x hx => by have := hb x hx; omega) (i - s) s (by omega)
  have a2 := sumI_mono (xs := cs) (fun x hx => by have := hb x hx; omega) (cs.length - i) i (by omega)
  have a3 := sumI_mono (xs := cs) (fun x hx => by have := hb x hx; omega) s 0 (by omega)
  have e1 : s + (i - s) = i := by omega
  have e2 : i + (cs.length - i) = cs.length := by omega
  rw [e1] at a1
  rw [e2, List.take_length] at a2
  rw [Nat.zero_add] at a3
  have e0 : sumI (cs.take 0) = 0 := rfl
  rw [e0] at a3
  unfold cB
  omega
set_option maxHeartbeats 8000000 in
theorem shrunk_c (r : Int) (x y : LV) (ms : List (Option Nat)) (cs : List Int) (H : Hp) (h : RdL H x (ms.map (LV.flt .f32))) (h' : RdL H y (cs.map (LV.int .i64))) (hr : 2 ≤ r ∧ r ≤ 64) (hn : ms.length ≤ 257) (hl : cs.length = ms.length) (hb : ∀ x ∈ cs, 1 ≤ x ∧ x ≤ 1000000) (ht : sumI cs ≤ 1000001) :
    FunH Try.prog 125 [.agg [.int .i64 r, x, y]] H fun r' H' => r' = .agg [.int .i64 r, .sl H.length 0 0 (shR r ms cs).1.length none, .sl (H.length + 1) 0 0 (shR r ms cs).2.length none] ∧
      H' = H ++ [⟨0, false, 37, 1, (shR r ms cs).1.map (LV.flt .f32)⟩, ⟨0, false, 2, 1, (shR r ms cs).2.map (LV.int .i64)⟩] := by
  have hxc := h.isCell
  have hyc := h'.isCell
  have hN0 : some (FloatKind.f32.nearest (sumI cs)) = nF (sumI cs) := rfl
  obtain ⟨R, hR⟩ : ∃ R, shR r ms cs = R := ⟨_, rfl⟩
  obtain ⟨N, hN⟩ : ∃ N, nF (sumI cs) = N := ⟨_, rfl⟩
  have hR0 : shO N r ms cs ms.length 0 [] [] = R := by rw [← hN, ← hR]; rfl
  rw [hR]
  rw [hN] at hN0
  have hb2 : ∀ x ∈ cs, -1000000000000 ≤ x ∧ x ≤ 1000000000000 := fun x hx => by have := hb x hx; omega
  (refine FunH_body tyOk Try.func125 rfl (by kernel_rfl) Try.ntmps125 (fun hcl hbd => ?_); simp only [List.length_cons, List.length_nil, Nat.reduceAdd, Nat.reduceSub, List.replicate, List.cons_append, List.nil_append])
  repeat' (first
    | ((with_reducible refine hK _ _ ?_); clear hK K)
    | ((with_reducible refine hK _ ?_); clear hK K; try simp only [])
    | ((first | (with_reducible show AOp _ _ _ _ _ _ _) | (with_reducible show AQOp _ _ _ _ _ _ _)); simp (disch := first | ((with_reducible show liveO _ _ _ = true); first | assumption | (exact liveO_setS (by assumption)) | (exact PtL.live (by assumption)) | (exact PtL.liveA (by assumption) _) | (simp only [go_sem]; done)) | omega | assumption | rfl | (simp only [go_sem]; first | done | omega)) only [go_sem, reduceIte, reduceCtorEq, Nat.reduceAdd, Nat.reduceMul, Nat.reduceSub, Nat.reduceLeDiff, Nat.lt_irrefl, Nat.reduceLT, Nat.reduceEqDiff, Nat.reduceBEq, Int.reduceLE, Int.reduceLT, Int.reduceToNat, w64, eq_self, hxc, hyc, hN0])
    | (with_reducible refine AW_seq (fun K hK => ?_))
    | (with_reducible refine AW_region tyOk ?_)
    | ((with_reducible refine AW_quiet (id := 6) tyOk ?_ ?_ ?_); (kernel_rfl); (kernel_rfl))
    | (with_reducible refine AOps_cons (fun K hK => ?_))
    | (with_reducible refine AQOps_cons (fun K hK => ?_))
    | ((with_reducible refine AQOps_nil ?_); try simp only [thenA, blockA, if_true, if_false, reduceIte, Nat.reduceEqDiff, reduceCtorEq])
    | ((with_reducible refine AOps_nil ?_); try simp only [thenA, blockA, if_true, if_false, reduceIte, Nat.reduceEqDiff, reduceCtorEq])
    | (with_reducible refine AW_block ?_)
    | ((first | (with_reducible refine AW_ret ?_) | (with_reducible refine AW_skip ?_) | (with_reducible refine AW_exit ?_)); try simp only [thenA, blockA, if_true, if_false, reduceIte, Nat.reduceEqDiff, reduceCtorEq])
    | ((with_reducible show AW _ _ (.cond _ _ _) _ _ _); refine AW_cond rfl (fun hg => ?_) (fun hg => ?_) <;> first | (exfalso; simp only [reduceCtorEq] at hg; done) | ((try simp only [Bool.not_eq_true', Bool.not_eq_false', decide_eq_true_eq, decide_eq_false_iff_not] at hg); try (exfalso; omega)))
    | ((with_reducible show _ ∧ _); refine And.intro (fun hg => ?_) (fun hg => ?_) <;> (try simp only [Bool.not_eq_true', Bool.not_eq_false'] at hg) <;> simp only [hg] <;> (try simp only [decide_eq_true_eq, decide_eq_false_iff_not] at hg) <;> (try (exfalso; omega)))
    | ((first | (with_reducible apply FunH_intro) | (with_reducible apply AQ_intro)); (first | exact sumOf_c _ _ _ (by first | assumption | exact RdL.app (by assumption) _ | exact RdL_hj rfl (by simp) | exact RdL_h0 rfl (by simp) | exact RdL_nil | exact RdL_emp) (by first | assumption | omega | (simp; omega) | (simp; done)) (by first | assumption | (simp; done))))
    | (clear hK K)
    | fail)
  refine AW.weak (Wk.virtC (o := ⟨0, false, 85, 3, [.int .i64 r, .nils, .nils]⟩) (H.length + 2) 1 37 1 ((hp_getj _ _ _).trans rfl) rfl) ?_
  simp only [hp_setj, List.set_cons_succ, List.set_cons_zero, List.length_append, List.length_cons, List.length_nil, Nat.zero_add, Nat.reduceAdd, List.append_assoc, List.cons_append, List.nil_append]
  refine AW.weak (Wk.virtC (o := ⟨0, false, 85, 3, [.int .i64 r, .sl (H.length + 3) 0 0 0 none, .nils]⟩) (H.length + 2) 2 2 1 ((hp_getj _ _ _).trans rfl) rfl) ?_
  simp only [hp_setj, List.set_cons_succ, List.set_cons_zero, List.length_append, List.length_cons, List.length_nil, Nat.zero_add, Nat.reduceAdd, List.append_assoc, List.cons_append, List.nil_append]
  refine AW_loopV [5, 6, 7, 8, 9, 10, 11, 12, 20, 21, 22, 23, 24, 25, 26, 27, 28, 29, 30, 31, 32, 33, 34, 35, 36, 37, 38, 39, 40, 41, 42, 43, 44, 45, 46, 47, 48, 49, 50, 51, 52, 53, 54, 55, 56, 57, 58, 59, 60, 61, 62, 63, 64, 65, 66, 67, 68, 69, 70, 71, 72, 73, 74, 75, 76, 77, 78, 79, 80, 81, 82, 83, 84, 85, 86, 87, 88, 89, 90, 91, 92, 93, 94, 95, 96, 97, 98, 99, 100, 101, 102, 103, 104, 105, 106, 107, 108, 109, 110, 111, 112, 113, 114, 115, 116, 117, 118, 119, 120, 121, 122, 123] (fun p : (Nat × Nat × List (Option Nat) × List Int) × (Nat × Nat × Hp) => [(5, .int .i64 (sumI (cs.take p.1.2.1))), (6, .int .i64 (p.1.2.1 : Nat))])
    (fun p => H ++ (⟨0, false, 85, 3, [.int .i64 r, x, y]⟩ :: ⟨0, false, 85, 3, [.int .i64 0, .nils, .nils]⟩ :: ⟨0, false, 85, 3, [.int .i64 r, .sl (H.length + 3) p.2.1 0 p.1.2.2.1.length none, .sl (H.length + 4) p.2.2.1 0 p.1.2.2.2.length none]⟩ :: ⟨p.2.1, false, 37, 1, p.1.2.2.1.map (LV.flt .f32)⟩ :: ⟨p.2.2.1, false, 2, 1, p.1.2.2.2.map (LV.int .i64)⟩ :: p.2.2.2))
    (fun p => p.1.2.1 ≤ ms.length ∧ p.1.2.2.1.length = p.1.2.2.2.length ∧ p.1.2.2.1.length ≤ p.1.2.1 ∧ ms.length - p.1.2.1 ≤ p.1.1 ∧ shO N r ms cs p.1.1 p.1.2.1 p.1.2.2.1 p.1.2.2.2 = R) (fun p => ms.length - p.1.2.1) ((ms.length, 0, [], []), (0, 0, [])) ⟨Nat.zero_le _, rfl, Nat.le_refl _, Nat.le_refl _, hR0⟩ ?_ rfl ?_
  · simp only [junkAll, setAll, List.foldl_cons, List.foldl_nil, List.set_cons_succ, List.set_cons_zero, JL, true_or, or_true, and_true, true_and, reduceCtorEq, false_or, or_false, LV.int.injEq, LV.bool.injEq, LV.flt.injEq, LV.sl.injEq, LV.ptr.injEq, eq_self, Int.natCast_add, Int.natCast_one, Int.natCast_zero, Int.ofNat_zero]; rfl
  · intro ⟨⟨f, i, aM, aC⟩, va, vb, G⟩ ⟨h0, h1, h2, h3, h4⟩ K hK
    simp only at h0 h1 h2 h3 h4
    simp only [junkAll, setAll, List.foldl_cons, List.foldl_nil, List.set_cons_succ, List.set_cons_zero]
    by_cases hi : i < ms.length
    · obtain ⟨⟨j, m⟩, hj⟩ : ∃ p, shI N r ms cs i ms.length (i + 1) (ix ms i) = p := ⟨_, rfl⟩
      have hji := shI_in N r ms cs i ms.length (i + 1) (ix ms i) (by omega)
      rw [hj] at hji
      simp only at hji
      obtain ⟨g, hg1, hg2, hg3⟩ := shO_more (aM := aM) (aC := aC) h3 hi hj
      have hcm : ix cs i = cB cs i (i + 1) := (cB_one (by omega)).symm
      repeat' (first
        | ((with_reducible refine hK _ _ ?_); clear hK K)
        | ((with_reducible refine hK _ ?_); clear hK K; try simp only [])
        | ((first | (with_reducible show AOp _ _ _ _ _ _ _) | (with_reducible show AQOp _ _ _ _ _ _ _)); simp (disch := first | ((with_reducible show liveO _ _ _ = true); first | assumption | (exact liveO_setS (by assumption)) | (exact PtL.live (by assumption)) | (exact PtL.liveA (by assumption) _) | (simp only [go_sem]; done)) | omega | assumption | rfl | (simp only [go_sem]; first | done | omega)) only [go_sem, reduceIte, reduceCtorEq, Nat.reduceAdd, Nat.reduceMul, Nat.reduceSub, Nat.reduceLeDiff, Nat.lt_irrefl, Nat.reduceLT, Nat.reduceEqDiff, Nat.reduceBEq, Int.reduceLE, Int.reduceLT, Int.reduceToNat, w64, eq_self, h.lenm, h.idxmA, h.ldmA, h'.lenm, h'.idxmA, h'.ldmA])
        | (with_reducible refine AW_seq (fun K hK => ?_))
        | (with_reducible refine AW_region tyOk ?_)
        | ((with_reducible refine AW_quiet (id := 6) tyOk ?_ ?_ ?_); (kernel_rfl); (kernel_rfl))
        | (with_reducible refine AOps_cons (fun K hK => ?_))
        | (with_reducible refine AQOps_cons (fun K hK => ?_))
        | ((with_reducible refine AQOps_nil ?_); try simp only [thenA, blockA, if_true, if_false, reduceIte, Nat.reduceEqDiff, reduceCtorEq])
        | ((with_reducible refine AOps_nil ?_); try simp only [thenA, blockA, if_true, if_false, reduceIte, Nat.reduceEqDiff, reduceCtorEq])
        | (with_reducible refine AW_block ?_)
        | ((first | (with_reducible refine AW_ret ?_) | (with_reducible refine AW_skip ?_) | (with_reducible refine AW_exit ?_)); try simp only [thenA, blockA, if_true, if_false, reduceIte, Nat.reduceEqDiff, reduceCtorEq])
        | ((with_reducible show AW _ _ (.cond _ _ _) _ _ _); refine AW_cond rfl (fun hg => ?_) (fun hg => ?_) <;> first | (exfalso; simp only [reduceCtorEq] at hg; done) | ((try simp only [Bool.not_eq_true', Bool.not_eq_false', decide_eq_true_eq, decide_eq_false_iff_not] at hg); try (exfalso; omega)))
        | ((with_reducible show _ ∧ _); refine And.intro (fun hg => ?_) (fun hg => ?_) <;> (try simp only [Bool.not_eq_true', Bool.not_eq_false'] at hg) <;> simp only [hg] <;> (try simp only [decide_eq_true_eq, decide_eq_false_iff_not] at hg) <;> (try (exfalso; omega)))
        | ((first | (with_reducible apply FunH_intro) | (with_reducible apply AQ_intro)); (first | exact sumOf_c _ _ _ (by first | assumption | exact RdL.app (by assumption) _ | exact RdL_hj rfl (by simp) | exact RdL_h0 rfl (by simp) | exact RdL_nil | exact RdL_emp) (by first | assumption | omega | (simp; omega) | (simp; done)) (by first | assumption | (simp; done))))
        | (clear hK K)
        | fail)
      refine AW_loopV [6, 7, 8, 9, 10, 11, 12, 37, 38, 39, 40, 41, 42, 43, 44, 45, 46, 47, 48, 49, 50, 51, 52, 53, 54, 55, 56, 57, 58, 59, 60, 61, 62, 63, 64, 65, 66, 67, 68, 69, 70, 71, 72, 73, 74, 75, 76, 77, 78, 79, 80, 81, 82, 83, 84, 85, 86, 87, 88, 89, 90, 91, 92, 93, 94, 95, 96, 97, 98, 99, 100, 101, 102, 103, 104, 105, 106, 107, 108] (fun q : Nat × Nat × Option Nat => [(6, .int .i64 (q.2.1 : Nat)), (7, .flt .f32 q.2.2), (8, .int .i64 (cB cs i q.2.1))])
        (fun q => H ++ (⟨0, false, 85, 3, [.int .i64 r, x, y]⟩ :: ⟨0, false, 85, 3, [.int .i64 0, .nils, .nils]⟩ :: ⟨0, false, 85, 3, [.int .i64 r, .sl (H.length + 3) va 0 aM.length none, .sl (H.length + 4) vb 0 aC.length none]⟩ :: ⟨va, false, 37, 1, aM.map (LV.flt .f32)⟩ :: ⟨vb, false, 2, 1, aC.map (LV.int .i64)⟩ :: G))
        (fun q => i + 1 ≤ q.2.1 ∧ q.2.1 ≤ ms.length ∧ ms.length - q.2.1 ≤ q.1 ∧ shI N r ms cs i q.1 q.2.1 q.2.2 = (j, m)) (fun q => ms.length - q.2.1) (ms.length, i + 1, ix ms i) ⟨Nat.le_refl _, hi, Nat.sub_le _ _, hj⟩ ?_ rfl ?_
      · simp only [junkAll, setAll, List.foldl_cons, List.foldl_nil, List.set_cons_succ, List.set_cons_zero, JL, true_or, or_true, and_true, true_and, reduceCtorEq, false_or, or_false, LV.int.injEq, LV.bool.injEq, LV.flt.injEq, LV.sl.injEq, LV.ptr.injEq, eq_self, Int.natCast_add, Int.natCast_one, Int.natCast_zero, Int.ofNat_zero]; rw [hcm]
      · intro ⟨fu, k, m0⟩ ⟨k0, k1, k2, k3⟩ K2 hK2
        simp only at k0 k1 k2 k3
        have hcb := cB_in hb ht (s := i) (i := k) (by omega) (by omega)
        simp only [junkAll, setAll, List.foldl_cons, List.foldl_nil, List.set_cons_succ, List.set_cons_zero]
        by_cases hk : k < ms.length
        · have hck := hb _ (ix_mem cs k (by omega))
          obtain ⟨B, hB⟩ : ∃ B, shBoth cs i k = B := ⟨_, rfl⟩
          have hB' : some (FloatKind.f32.nearest (cB cs i k + ix cs k)) = B := hB
          have hH : opC .quo .f32 B (some 1073741824) = opC .mul .f32 (some 1056964608) B := by rw [← hB]; exact half_op (by omega) (by omega)
          obtain ⟨Q, hQ⟩ : ∃ Q, shQ N cs i k = Q := ⟨_, rfl⟩
          have hQ' : opC .quo .f32 (opC .add .f32 (some (FloatKind.f32.nearest (sumI (cs.take i)))) (opC .mul .f32 (some 1056964608) B)) N = Q := by rw [← hQ, ← hB]; rfl
          obtain ⟨L, hL⟩ : ∃ L, shLim N r cs i k = L := ⟨_, rfl⟩
          have hL' : opC .quo .f32 (opC .mul .f32 (opC .mul .f32 (opC .mul .f32 (some 1082130432) N) Q) (opC .sub .f32 (some 1065353216) Q)) (some (FloatKind.f32.nearest r)) = L := by rw [← hL, ← hQ]; rfl
          obtain ⟨J, hJ⟩ : ∃ J, shJ0 ms cs i k m0 = J := ⟨_, rfl⟩
          have hJ' : opC .quo .f32 (opC .add .f32 (opC .mul .f32 m0 (some (FloatKind.f32.nearest (cB cs i k)))) (opC .mul .f32 (ix ms k) (some (FloatKind.f32.nearest (ix cs k))))) B = J := by rw [← hJ, ← hB]; rfl
          have hS : shJ ms cs i k m0 = clampLo (clampHi J (ix ms k)) m0 := by rw [← hJ]; rfl
          have hcs := cB_succ (cs := cs) (s := i) (i := k) (by omega)
          cases eT : fLe .f32 B L
          · have hst : shT N r cs i k = false := by unfold shT; rw [hB, hL]; exact eT
            rw [shI_stop (by rw [hst]; simp)] at k3
            obtain ⟨f1, f2⟩ := Prod.mk.inj k3; subst f1; subst f2
            have q5 : (aM ++ [m0]).length = aM.length + 1 := by simp
            have q6 : (aC ++ [cB cs i k]).length = aC.length + 1 := by simp
            repeat' (first
              | ((with_reducible refine hK _ _ ?_); clear hK K)
              | ((with_reducible refine hK _ ?_); clear hK K; try simp only [])
              | ((first | (with_reducible show AOp _ _ _ _ _ _ _) | (with_reducible show AQOp _ _ _ _ _ _ _)); simp (disch := first | ((with_reducible show liveO _ _ _ = true); first | assumption | (exact liveO_setS (by assumption)) | (exact PtL.live (by assumption)) | (exact PtL.liveA (by assumption) _) | (simp only [go_sem]; done)) | omega | assumption | rfl | (simp only [go_sem]; first | done | omega)) only [go_sem, reduceIte, reduceCtorEq, Nat.reduceAdd, Nat.reduceMul, Nat.reduceSub, Nat.reduceLeDiff, Nat.lt_irrefl, Nat.reduceLT, Nat.reduceEqDiff, Nat.reduceBEq, Int.reduceLE, Int.reduceLT, Int.reduceToNat, w64, eq_self, h.lenm, h.idxmA, h.ldmA, h'.lenm, h'.idxmA, h'.ldmA, hB', hH, hQ', hL', eT])
              | (with_reducible refine AW_seq (fun K hK => ?_))
              | (with_reducible refine AW_region tyOk ?_)
              | ((with_reducible refine AW_quiet (id := 6) tyOk ?_ ?_ ?_); (kernel_rfl); (kernel_rfl))
              | (with_reducible refine AOps_cons (fun K hK => ?_))
              | (with_reducible refine AQOps_cons (fun K hK => ?_))
              | ((with_reducible refine AQOps_nil ?_); try simp only [thenA, blockA, if_true, if_false, reduceIte, Nat.reduceEqDiff, reduceCtorEq])
              | ((with_reducible refine AOps_nil ?_); try simp only [thenA, blockA, if_true, if_false, reduceIte, Nat.reduceEqDiff, reduceCtorEq])
              | (with_reducible refine AW_block ?_)
              | ((first | (with_reducible refine AW_ret ?_) | (with_reducible refine AW_skip ?_) | (with_reducible refine AW_exit ?_)); try simp only [thenA, blockA, if_true, if_false, reduceIte, Nat.reduceEqDiff, reduceCtorEq])
              | ((with_reducible show AW _ _ (.cond _ _ _) _ _ _); refine AW_cond rfl (fun hg => ?_) (fun hg => ?_) <;> first | (exfalso; simp only [reduceCtorEq] at hg; done) | ((try simp only [Bool.not_eq_true', Bool.not_eq_false', decide_eq_true_eq, decide_eq_false_iff_not] at hg); try (exfalso; omega)))
              | ((with_reducible show _ ∧ _); refine And.intro (fun hg => ?_) (fun hg => ?_) <;> (try simp only [Bool.not_eq_true', Bool.not_eq_false'] at hg) <;> simp only [hg] <;> (try simp only [decide_eq_true_eq, decide_eq_false_iff_not] at hg) <;> (try (exfalso; omega)))
              | ((first | (with_reducible apply FunH_intro) | (with_reducible apply AQ_intro)); (first | exact sumOf_c _ _ _ (by first | assumption | exact RdL.app (by assumption) _ | exact RdL_hj rfl (by simp) | exact RdL_h0 rfl (by simp) | exact RdL_nil | exact RdL_emp) (by first | assumption | omega | (simp; omega) | (simp; done)) (by first | assumption | (simp; done))))
              | (clear hK K)
              | fail)
            refine hK _ _ ((g, k, aM ++ [m0], aC ++ [cB cs i k]), (va + 1, vb + 1, ?G1)) ⟨by (try simp only); omega, by (try simp only); omega, by (try simp only); omega, hg2, hg3.symm.trans h4⟩ (by (try simp only); omega) ?j1 ?h1
            case h1 => (rw [List.map_append, List.map_append]; simp only [List.length_append, List.length_cons, List.length_nil, List.map_cons, List.map_nil]; rfl)
            case j1 => (simp only [junkAll, setAll, List.foldl_cons, List.foldl_nil, List.set_cons_succ, List.set_cons_zero, JL, true_or, or_true, and_true, true_and, reduceCtorEq, false_or, or_false, LV.int.injEq, LV.bool.injEq, LV.flt.injEq, LV.sl.injEq, LV.ptr.injEq, eq_self, Int.natCast_add, Int.natCast_one, Int.natCast_zero, Int.ofNat_zero]; unfold cB; omega)
          · have hst : shT N r cs i k = true := by unfold shT; rw [hB, hL]; exact eT
            obtain ⟨fu', q1, q2, q3⟩ := shI_more k2 hk hst
            rw [q3, hS] at k3
            repeat' (first
              | ((with_reducible refine hK _ _ ?_); clear hK K)
              | ((with_reducible refine hK _ ?_); clear hK K; try simp only [])
              | ((first | (with_reducible show AOp _ _ _ _ _ _ _) | (with_reducible show AQOp _ _ _ _ _ _ _)); simp (disch := first | ((with_reducible show liveO _ _ _ = true); first | assumption | (exact liveO_setS (by assumption)) | (exact PtL.live (by assumption)) | (exact PtL.liveA (by assumption) _) | (simp only [go_sem]; done)) | omega | assumption | rfl | (simp only [go_sem]; first | done | omega)) only [go_sem, reduceIte, reduceCtorEq, Nat.reduceAdd, Nat.reduceMul, Nat.reduceSub, Nat.reduceLeDiff, Nat.lt_irrefl, Nat.reduceLT, Nat.reduceEqDiff, Nat.reduceBEq, Int.reduceLE, Int.reduceLT, Int.reduceToNat, w64, eq_self, h.lenm, h.idxmA, h.ldmA, h'.lenm, h'.idxmA, h'.ldmA, hB', hH, hQ', hL', eT, hJ'])
              | (with_reducible refine AW_seq (fun K hK => ?_))
              | (with_reducible refine AW_region tyOk ?_)
              | ((with_reducible refine AW_quiet (id := 6) tyOk ?_ ?_ ?_); (kernel_rfl); (kernel_rfl))
              | (with_reducible refine AOps_cons (fun K hK => ?_))
              | (with_reducible refine AQOps_cons (fun K hK => ?_))
              | ((with_reducible refine AQOps_nil ?_); try simp only [thenA, blockA, if_true, if_false, reduceIte, Nat.reduceEqDiff, reduceCtorEq])
              | ((with_reducible refine AOps_nil ?_); try simp only [thenA, blockA, if_true, if_false, reduceIte, Nat.reduceEqDiff, reduceCtorEq])
              | (with_reducible refine AW_block ?_)
              | ((first | (with_reducible refine AW_ret ?_) | (with_reducible refine AW_skip ?_) | (with_reducible refine AW_exit ?_)); try simp only [thenA, blockA, if_true, if_false, reduceIte, Nat.reduceEqDiff, reduceCtorEq])
              | ((with_reducible show AW _ _ (.cond _ _ _) _ _ _); refine AW_cond rfl (fun hg => ?_) (fun hg => ?_) <;> first | (exfalso; simp only [reduceCtorEq] at hg; done) | ((try simp only [Bool.not_eq_true', Bool.not_eq_false', decide_eq_true_eq, decide_eq_false_iff_not] at hg); try (exfalso; omega)))
              | ((with_reducible show _ ∧ _); refine And.intro (fun hg => ?_) (fun hg => ?_) <;> (try simp only [Bool.not_eq_true', Bool.not_eq_false'] at hg) <;> simp only [hg] <;> (try simp only [decide_eq_true_eq, decide_eq_false_iff_not] at hg) <;> (try (exfalso; omega)))
              | ((first | (with_reducible apply FunH_intro) | (with_reducible apply AQ_intro)); (first | exact sumOf_c _ _ _ (by first | assumption | exact RdL.app (by assumption) _ | exact RdL_hj rfl (by simp) | exact RdL_h0 rfl (by simp) | exact RdL_nil | exact RdL_emp) (by first | assumption | omega | (simp; omega) | (simp; done)) (by first | assumption | (simp; done))))
              | (clear hK K)
              | fail)
            all_goals (refine hK2 _ _ (fu', k + 1, clampLo (clampHi J (ix ms k)) m0) ⟨by (try simp only); omega, by (try simp only); omega, q2, k3⟩ (by (try simp only); omega) ?_ rfl)
            all_goals (simp only [junkAll, setAll, List.foldl_cons, List.foldl_nil, List.set_cons_succ, List.set_cons_zero, JL, true_or, or_true, and_true, true_and, reduceCtorEq, false_or, or_false, LV.int.injEq, LV.bool.injEq, LV.flt.injEq, LV.sl.injEq, LV.ptr.injEq, eq_self, Int.natCast_add, Int.natCast_one, Int.natCast_zero, Int.ofNat_zero]; rw [hcs])
            all_goals (unfold clampLo clampHi; simp_all)
        · have ek : k = ms.length := by omega
          subst ek
          rw [shI_stop (by omega)] at k3
          obtain ⟨f1, f2⟩ := Prod.mk.inj k3; subst f1; subst f2
          have q5 : (aM ++ [m0]).length = aM.length + 1 := by simp
          have q6 : (aC ++ [cB cs i ms.length]).length = aC.length + 1 := by simp
          repeat' (first
            | ((with_reducible refine hK _ _ ?_); clear hK K)
            | ((with_reducible refine hK _ ?_); clear hK K; try simp only [])
            | ((first | (with_reducible show AOp _ _ _ _ _ _ _) | (with_reducible show AQOp _ _ _ _ _ _ _)); simp (disch := first | ((with_reducible show liveO _ _ _ = true); first | assumption | (exact liveO_setS (by assumption)) | (exact PtL.live (by assumption)) | (exact PtL.liveA (by assumption) _) | (simp only [go_sem]; done)) | omega | assumption | rfl | (simp only [go_sem]; first | done | omega)) only [go_sem, reduceIte, reduceCtorEq, Nat.reduceAdd, Nat.reduceMul, Nat.reduceSub, Nat.reduceLeDiff, Nat.lt_irrefl, Nat.reduceLT, Nat.reduceEqDiff, Nat.reduceBEq, Int.reduceLE, Int.reduceLT, Int.reduceToNat, w64, eq_self, h.lenm])
            | (with_reducible refine AW_seq (fun K hK => ?_))
            | (with_reducible refine AW_region tyOk ?_)
            | ((with_reducible refine AW_quiet (id := 6) tyOk ?_ ?_ ?_); (kernel_rfl); (kernel_rfl))
            | (with_reducible refine AOps_cons (fun K hK => ?_))
            | (with_reducible refine AQOps_cons (fun K hK => ?_))
            | ((with_reducible refine AQOps_nil ?_); try simp only [thenA, blockA, if_true, if_false, reduceIte, Nat.reduceEqDiff, reduceCtorEq])
            | ((with_reducible refine AOps_nil ?_); try simp only [thenA, blockA, if_true, if_false, reduceIte, Nat.reduceEqDiff, reduceCtorEq])
            | (with_reducible refine AW_block ?_)
            | ((first | (with_reducible refine AW_ret ?_) | (with_reducible refine AW_skip ?_) | (with_reducible refine AW_exit ?_)); try simp only [thenA, blockA, if_true, if_false, reduceIte, Nat.reduceEqDiff, reduceCtorEq])
            | ((with_reducible show AW _ _ (.cond _ _ _) _ _ _); refine AW_cond rfl (fun hg => ?_) (fun hg => ?_) <;> first | (exfalso; simp only [reduceCtorEq] at hg; done) | ((try simp only [Bool.not_eq_true', Bool.not_eq_false', decide_eq_true_eq, decide_eq_false_iff_not] at hg); try (exfalso; omega)))
            | ((with_reducible show _ ∧ _); refine And.intro (fun hg => ?_) (fun hg => ?_) <;> (try simp only [Bool.not_eq_true', Bool.not_eq_false'] at hg) <;> simp only [hg] <;> (try simp only [decide_eq_true_eq, decide_eq_false_iff_not] at hg) <;> (try (exfalso; omega)))
            | ((first | (with_reducible apply FunH_intro) | (with_reducible apply AQ_intro)); (first | exact sumOf_c _ _ _ (by first | assumption | exact RdL.app (by assumption) _ | exact RdL_hj rfl (by simp) | exact RdL_h0 rfl (by simp) | exact RdL_nil | exact RdL_emp) (by first | assumption | omega | (simp; omega) | (simp; done)) (by first | assumption | (simp; done))))
            | (clear hK K)
            | fail)
          refine hK _ _ ((g, ms.length, aM ++ [m0], aC ++ [cB cs i ms.length]), (va + 1, vb + 1, ?G2)) ⟨by (try simp only); omega, by (try simp only); omega, by (try simp only); omega, hg2, hg3.symm.trans h4⟩ (by (try simp only); omega) ?j2 ?h2
          case h2 => (rw [List.map_append, List.map_append]; simp only [List.length_append, List.length_cons, List.length_nil, List.map_cons, List.map_nil]; rfl)
          case j2 => (simp only [junkAll, setAll, List.foldl_cons, List.foldl_nil, List.set_cons_succ, List.set_cons_zero, JL, true_or, or_true, and_true, true_and, reduceCtorEq, false_or, or_false, LV.int.injEq, LV.bool.injEq, LV.flt.injEq, LV.sl.injEq, LV.ptr.injEq, eq_self, Int.natCast_add, Int.natCast_one, Int.natCast_zero, Int.ofNat_zero]; unfold cB; omega)
    · have ei : i = ms.length := by omega
      subst ei
      rw [shO_stop hi] at h4
      subst h4
      repeat' (first
        | ((with_reducible refine hK _ _ ?_); clear hK K)
        | ((with_reducible refine hK _ ?_); clear hK K; try simp only [])
        | ((first | (with_reducible show AOp _ _ _ _ _ _ _) | (with_reducible show AQOp _ _ _ _ _ _ _)); simp (disch := first | ((with_reducible show liveO _ _ _ = true); first | assumption | (exact liveO_setS (by assumption)) | (exact PtL.live (by assumption)) | (exact PtL.liveA (by assumption) _) | (simp only [go_sem]; done)) | omega | assumption | rfl | (simp only [go_sem]; first | done | omega)) only [go_sem, reduceIte, reduceCtorEq, Nat.reduceAdd, Nat.reduceMul, Nat.reduceSub, Nat.reduceLeDiff, Nat.lt_irrefl, Nat.reduceLT, Nat.reduceEqDiff, Nat.reduceBEq, Int.reduceLE, Int.reduceLT, Int.reduceToNat, w64, eq_self, h.lenm])
        | (with_reducible refine AW_seq (fun K hK => ?_))
        | (with_reducible refine AW_region tyOk ?_)
        | ((with_reducible refine AW_quiet (id := 6) tyOk ?_ ?_ ?_); (kernel_rfl); (kernel_rfl))
        | (with_reducible refine AOps_cons (fun K hK => ?_))
        | (with_reducible refine AQOps_cons (fun K hK => ?_))
        | ((with_reducible refine AQOps_nil ?_); try simp only [thenA, blockA, if_true, if_false, reduceIte, Nat.reduceEqDiff, reduceCtorEq])
        | ((with_reducible refine AOps_nil ?_); try simp only [thenA, blockA, if_true, if_false, reduceIte, Nat.reduceEqDiff, reduceCtorEq])
        | (with_reducible refine AW_block ?_)
        | ((first | (with_reducible refine AW_ret ?_) | (with_reducible refine AW_skip ?_) | (with_reducible refine AW_exit ?_)); try simp only [thenA, blockA, if_true, if_false, reduceIte, Nat.reduceEqDiff, reduceCtorEq])
        | ((with_reducible show AW _ _ (.cond _ _ _) _ _ _); refine AW_cond rfl (fun hg => ?_) (fun hg => ?_) <;> first | (exfalso; simp only [reduceCtorEq] at hg; done) | ((try simp only [Bool.not_eq_true', Bool.not_eq_false', decide_eq_true_eq, decide_eq_false_iff_not] at hg); try (exfalso; omega)))
        | ((with_reducible show _ ∧ _); refine And.intro (fun hg => ?_) (fun hg => ?_) <;> (try simp only [Bool.not_eq_true', Bool.not_eq_false'] at hg) <;> simp only [hg] <;> (try simp only [decide_eq_true_eq, decide_eq_false_iff_not] at hg) <;> (try (exfalso; omega)))
        | ((first | (with_reducible apply FunH_intro) | (with_reducible apply AQ_intro)); (first | exact sumOf_c _ _ _ (by first | assumption | exact RdL.app (by assumption) _ | exact RdL_hj rfl (by simp) | exact RdL_h0 rfl (by simp) | exact RdL_nil | exact RdL_emp) (by first | assumption | omega | (simp; omega) | (simp; done)) (by first | assumption | (simp; done))))
        | (clear hK K)
        | fail)
      refine EndA_rows [some 3, some 4] hcl (by first | exact Or.inr rfl | exact Or.inl rfl) (by simp only [Try.results125, resA, aresL, go_sem, reduceIte, reduceCtorEq, Nat.reduceAdd, Nat.reduceMul, Nat.reduceSub, Nat.reduceLeDiff, Nat.lt_irrefl, Nat.reduceLT, Nat.reduceEqDiff, Nat.reduceBEq, Int.reduceLE, Int.reduceLT, Int.reduceToNat, w64, eq_self] <;> rfl) (by decide) ?_ ?_ ⟨rfl, rfl⟩
      rotate_left
      · repeat' (first | exact trivial | apply TdT.tup | apply TdT.one | apply TdL.agg | apply TdL.cell | exact TdB.old _ trivial rfl | exact TdB.own 0 3 _ _ _ _ rfl _ rfl rfl | exact TdB.own 1 4 _ _ _ _ rfl _ rfl rfl | exact TdB.junk _ | exact TdB.old _ (by assumption) (by assumption) | refine And.intro ?_ ?_)
      all_goals (repeat' (first | (with_reducible exact RowOk.none) | ((with_reducible apply RowOk.emp); exact rfl) | ((with_reducible apply RowOk.eq); (exact rfl); rotate_left; (first | (with_reducible exact scal_int _ _) | (with_reducible exact scal_flt _ _) | (with_reducible exact scal_bool _) | (intro c hc; cases hc; done) | (simp [LV.isCell, bnd]; done))) | exact trivial | refine And.intro ?_ ?_))
      all_goals (try rfl)
set_option maxHeartbeats 8000000 in
theorem l05Shrink_c (id ver : Nat) (r : Int) (x y : LV) (ms : List (Option Nat)) (cs : List Int) (H : Hp) (hp : PtL H id ver [.int .i64 r, x, y]) (h : RdL H x (ms.map (LV.flt .f32))) (h' : RdL H y (cs.map (LV.int .i64))) (hr : 2 ≤ r ∧ r ≤ 64) (hn : ms.length ≤ 257) (hl : cs.length = ms.length) (hb : ∀ x ∈ cs, 1 ≤ x ∧ x ≤ 1000000) (ht : sumI cs ≤ 1000001) :
    FunH Try.prog 118 [.ptr id ver 0] H fun r' H' => r' = .agg [.int .i64 r, .sl H.length 0 0 (shR r ms cs).1.length none, .sl (H.length + 1) 0 0 (shR r ms cs).2.length none] ∧
      H' = H ++ [⟨0, false, 37, 1, (shR r ms cs).1.map (LV.flt .f32)⟩, ⟨0, false, 2, 1, (shR r ms cs).2.map (LV.int .i64)⟩] := by
  have hxc := h.isCell
  have hyc := h'.isCell
  have hN0 : some (FloatKind.f32.nearest (sumI cs)) = nF (sumI cs) := rfl
  obtain ⟨R, hR⟩ : ∃ R, shR r ms cs = R := ⟨_, rfl⟩
  obtain ⟨N, hN⟩ : ∃ N, nF (sumI cs) = N := ⟨_, rfl⟩
  have hR0 : shO N r ms cs ms.length 0 [] [] = R := by rw [← hN, ← hR]; rfl
  rw [hR]
  rw [hN] at hN0
  have hb2 : ∀ x ∈ cs, -1000000000000 ≤ x ∧ x ≤ 1000000000000 := fun x hx => by have := hb x hx; omega
  (refine FunH_body tyOk Try.func118 rfl (by kernel_rfl) Try.ntmps118 (fun hcl hbd => ?_); simp only [List.length_cons, List.length_nil, Nat.reduceAdd, Nat.reduceSub, List.replicate, List.cons_append, List.nil_append])
  repeat' (first
    | ((with_reducible refine hK _ _ ?_); clear hK K)
    | ((with_reducible refine hK _ ?_); clear hK K; try simp only [])
    | ((first | (with_reducible show AOp _ _ _ _ _ _ _) | (with_reducible show AQOp _ _ _ _ _ _ _)); simp (disch := first | ((with_reducible show liveO _ _ _ = true); first | assumption | (exact liveO_setS (by assumption)) | (exact PtL.live (by assumption)) | (exact PtL.liveA (by assumption) _) | (simp only [go_sem]; done)) | omega | assumption | rfl | (simp only [go_sem]; first | done | omega)) only [go_sem, reduceIte, reduceCtorEq, Nat.reduceAdd, Nat.reduceMul, Nat.reduceSub, Nat.reduceLeDiff, Nat.lt_irrefl, Nat.reduceLT, Nat.reduceEqDiff, Nat.reduceBEq, Int.reduceLE, Int.reduceLT, Int.reduceToNat, w64, eq_self, hp.get, hp.getA, hxc, hyc, hN0])
    | (with_reducible refine AW_seq (fun K hK => ?_))
    | (with_reducible refine AW_region tyOk ?_)
    | ((with_reducible refine AW_quiet (id := 14) tyOk ?_ ?_ ?_); (kernel_rfl); (kernel_rfl))
    | (with_reducible refine AOps_cons (fun K hK => ?_))
    | (with_reducible refine AQOps_cons (fun K hK => ?_))
    | ((with_reducible refine AQOps_nil ?_); try simp only [thenA, blockA, if_true, if_false, reduceIte, Nat.reduceEqDiff, reduceCtorEq])
    | ((with_reducible refine AOps_nil ?_); try simp only [thenA, blockA, if_true, if_false, reduceIte, Nat.reduceEqDiff, reduceCtorEq])
    | (with_reducible refine AW_block ?_)
    | ((first | (with_reducible refine AW_ret ?_) | (with_reducible refine AW_skip ?_) | (with_reducible refine AW_exit ?_)); try simp only [thenA, blockA, if_true, if_false, reduceIte, Nat.reduceEqDiff, reduceCtorEq])
    | ((with_reducible show AW _ _ (.cond _ _ _) _ _ _); refine AW_cond rfl (fun hg => ?_) (fun hg => ?_) <;> first | (exfalso; simp only [reduceCtorEq] at hg; done) | ((try simp only [Bool.not_eq_true', Bool.not_eq_false', decide_eq_true_eq, decide_eq_false_iff_not] at hg); try (exfalso; omega)))
    | ((with_reducible show _ ∧ _); refine And.intro (fun hg => ?_) (fun hg => ?_) <;> (try simp only [Bool.not_eq_true', Bool.not_eq_false'] at hg) <;> simp only [hg] <;> (try simp only [decide_eq_true_eq, decide_eq_false_iff_not] at hg) <;> (try (exfalso; omega)))
    | ((first | (with_reducible apply FunH_intro) | (with_reducible apply AQ_intro)); (first | exact l05All_c _ _ _ _ _ _ _ (by first | assumption | exact PtL.app (by assumption) _ | exact PtL_h0 rfl | exact PtL_hj rfl) (by first | assumption | exact RdL.app (by assumption) _ | exact RdL_hj rfl (by simp) | exact RdL_h0 rfl (by simp) | exact RdL_nil | exact RdL_emp) (by first | assumption | omega | (simp; omega) | (simp; done)) (by first | assumption | (simp; done))))
    | (clear hK K)
    | fail)
  refine AW.weak (Wk.virtC (o := ⟨0, false, 85, 3, [.int .i64 r, .nils, .nils]⟩) (H.length + 1) 1 37 1 ((hp_getj _ _ _).trans rfl) rfl) ?_
  simp only [hp_setj, List.set_cons_succ, List.set_cons_zero, List.length_append, List.length_cons, List.length_nil, Nat.zero_add, Nat.reduceAdd, List.append_assoc, List.cons_append, List.nil_append]
  refine AW.weak (Wk.virtC (o := ⟨0, false, 85, 3, [.int .i64 r, .sl (H.length + 2) 0 0 0 none, .nils]⟩) (H.length + 1) 2 2 1 ((hp_getj _ _ _).trans rfl) rfl) ?_
  simp only [hp_setj, List.set_cons_succ, List.set_cons_zero, List.length_append, List.length_cons, List.length_nil, Nat.zero_add, Nat.reduceAdd, List.append_assoc, List.cons_append, List.nil_append]
  refine AW_loopV [5, 6, 7, 8, 9, 10, 11, 12, 20, 21, 22, 23, 24, 25, 26, 27, 28, 29, 30, 31, 32, 33, 34, 35, 36, 37, 38, 39, 40, 41, 42, 43, 44, 45, 46, 47, 48, 49, 50, 51, 52, 53, 54, 55, 56, 57, 58, 59, 60, 61, 62, 63, 64, 65, 66, 67, 68, 69, 70, 71, 72, 73, 74, 75, 76, 77, 78, 79, 80, 81, 82, 83, 84, 85, 86, 87, 88, 89, 90, 91, 92, 93, 94, 95, 96, 97, 98, 99, 100, 101, 102, 103, 104, 105, 106, 107, 108, 109, 110, 111, 112, 113, 114, 115, 116, 117, 118, 119, 120, 121, 122, 123, 124, 125, 126, 127, 128, 129, 130, 131, 132, 133, 134, 135, 136, 137, 138, 139, 140, 141, 142, 143, 144, 145, 146, 147, 148, 149, 150, 151, 152, 153] (fun p : (Nat × Nat × List (Option Nat) × List Int) × (Nat × Nat × Hp) => [(5, .int .i64 (sumI (cs.take p.1.2.1))), (6, .int .i64 (p.1.2.1 : Nat))])
    (fun p => H ++ (⟨0, false, 85, 3, [.int .i64 0, .nils, .nils]⟩ :: ⟨0, false, 85, 3, [.int .i64 r, .sl (H.length + 2) p.2.1 0 p.1.2.2.1.length none, .sl (H.length + 3) p.2.2.1 0 p.1.2.2.2.length none]⟩ :: ⟨p.2.1, false, 37, 1, p.1.2.2.1.map (LV.flt .f32)⟩ :: ⟨p.2.2.1, false, 2, 1, p.1.2.2.2.map (LV.int .i64)⟩ :: p.2.2.2))
    (fun p => p.1.2.1 ≤ ms.length ∧ p.1.2.2.1.length = p.1.2.2.2.length ∧ p.1.2.2.1.length ≤ p.1.2.1 ∧ ms.length - p.1.2.1 ≤ p.1.1 ∧ shO N r ms cs p.1.1 p.1.2.1 p.1.2.2.1 p.1.2.2.2 = R) (fun p => ms.length - p.1.2.1) ((ms.length, 0, [], []), (0, 0, [])) ⟨Nat.zero_le _, rfl, Nat.le_refl _, Nat.le_refl _, hR0⟩ ?_ rfl ?_
  · simp only [junkAll, setAll, List.foldl_cons, List.foldl_nil, List.set_cons_succ, List.set_cons_zero, JL, true_or, or_true, and_true, true_and, reduceCtorEq, false_or, or_false, LV.int.injEq, LV.bool.injEq, LV.flt.injEq, LV.sl.injEq, LV.ptr.injEq, eq_self, Int.natCast_add, Int.natCast_one, Int.natCast_zero, Int.ofNat_zero]; rfl
  · intro ⟨⟨f, i, aM, aC⟩, va, vb, G⟩ ⟨h0, h1, h2, h3, h4⟩ K hK
    simp only at h0 h1 h2 h3 h4
    simp only [junkAll, setAll, List.foldl_cons, List.foldl_nil, List.set_cons_succ, List.set_cons_zero]
    by_cases hi : i < ms.length
    · obtain ⟨⟨j, m⟩, hj⟩ : ∃ p, shI N r ms cs i ms.length (i + 1) (ix ms i) = p := ⟨_, rfl⟩
      have hji := shI_in N r ms cs i ms.length (i + 1) (ix ms i) (by omega)
      rw [hj] at hji
      simp only at hji
      obtain ⟨g, hg1, hg2, hg3⟩ := shO_more (aM := aM) (aC := aC) h3 hi hj
      have hcm : ix cs i = cB cs i (i + 1) := (cB_one (by omega)).symm
      repeat' (first
        | ((with_reducible refine hK _ _ ?_); clear hK K)
        | ((with_reducible refine hK _ ?_); clear hK K; try simp only [])
        | ((first | (with_reducible show AOp _ _ _ _ _ _ _) | (with_reducible show AQOp _ _ _ _ _ _ _)); simp (disch := first | ((with_reducible show liveO _ _ _ = true); first | assumption | (exact liveO_setS (by assumption)) | (exact PtL.live (by assumption)) | (exact PtL.liveA (by assumption) _) | (simp only [go_sem]; done)) | omega | assumption | rfl | (simp only [go_sem]; first | done | omega)) only [go_sem, reduceIte, reduceCtorEq, Nat.reduceAdd, Nat.reduceMul, Nat.reduceSub, Nat.reduceLeDiff, Nat.lt_irrefl, Nat.reduceLT, Nat.reduceEqDiff, Nat.reduceBEq, Int.reduceLE, Int.reduceLT, Int.reduceToNat, w64, eq_self, hp.get, hp.getA, h.lenm, h.idxmA, h.ldmA, h'.lenm, h'.idxmA, h'.ldmA])
        | (with_reducible refine AW_seq (fun K hK => ?_))
        | (with_reducible refine AW_region tyOk ?_)
        | ((with_reducible refine AW_quiet (id := 14) tyOk ?_ ?_ ?_); (kernel_rfl); (kernel_rfl))
        | (with_reducible refine AOps_cons (fun K hK => ?_))
        | (with_reducible refine AQOps_cons (fun K hK => ?_))
        | ((with_reducible refine AQOps_nil ?_); try simp only [thenA, blockA, if_true, if_false, reduceIte, Nat.reduceEqDiff, reduceCtorEq])
        | ((with_reducible refine AOps_nil ?_); try simp only [thenA, blockA, if_true, if_false, reduceIte, Nat.reduceEqDiff, reduceCtorEq])
        | (with_reducible refine AW_block ?_)
        | ((first | (with_reducible refine AW_ret ?_) | (with_reducible refine AW_skip ?_) | (with_reducible refine AW_exit ?_)); try simp only [thenA, blockA, if_true, if_false, reduceIte, Nat.reduceEqDiff, reduceCtorEq])
        | ((with_reducible show AW _ _ (.cond _ _ _) _ _ _); refine AW_cond rfl (fun hg => ?_) (fun hg => ?_) <;> first | (exfalso; simp only [reduceCtorEq] at hg; done) | ((try simp only [Bool.not_eq_true', Bool.not_eq_false', decide_eq_true_eq, decide_eq_false_iff_not] at hg); try (exfalso; omega)))
        | ((with_reducible show _ ∧ _); refine And.intro (fun hg => ?_) (fun hg => ?_) <;> (try simp only [Bool.not_eq_true', Bool.not_eq_false'] at hg) <;> simp only [hg] <;> (try simp only [decide_eq_true_eq, decide_eq_false_iff_not] at hg) <;> (try (exfalso; omega)))
        | ((first | (with_reducible apply FunH_intro) | (with_reducible apply AQ_intro)); (first | exact l05All_c _ _ _ _ _ _ _ (by first | assumption | exact PtL.app (by assumption) _ | exact PtL_h0 rfl | exact PtL_hj rfl) (by first | assumption | exact RdL.app (by assumption) _ | exact RdL_hj rfl (by simp) | exact RdL_h0 rfl (by simp) | exact RdL_nil | exact RdL_emp) (by first | assumption | omega | (simp; omega) | (simp; done)) (by first | assumption | (simp; done))))
        | (clear hK K)
        | fail)
      refine AW_loopV [6, 7, 8, 9, 10, 11, 12, 43, 44, 45, 46, 47, 48, 49, 50, 51, 52, 53, 54, 55, 56, 57, 58, 59, 60, 61, 62, 63, 64, 65, 66, 67, 68, 69, 70, 71, 72, 73, 74, 75, 76, 77, 78, 79, 80, 81, 82, 83, 84, 85, 86, 87, 88, 89, 90, 91, 92, 93, 94, 95, 96, 97, 98, 99, 100, 101, 102, 103, 104, 105, 106, 107, 108, 109, 110, 111, 112, 113, 114, 115, 116, 117, 118, 119, 120, 121, 122, 123, 124, 125, 126, 127, 128, 129, 130, 131, 132, 133, 134, 135, 136, 137, 138] (fun q : Nat × Nat × Option Nat => [(6, .int .i64 (q.2.1 : Nat)), (7, .flt .f32 q.2.2), (8, .int .i64 (cB cs i q.2.1))])
        (fun q => H ++ (⟨0, false, 85, 3, [.int .i64 0, .nils, .nils]⟩ :: ⟨0, false, 85, 3, [.int .i64 r, .sl (H.length + 2) va 0 aM.length none, .sl (H.length + 3) vb 0 aC.length none]⟩ :: ⟨va, false, 37, 1, aM.map (LV.flt .f32)⟩ :: ⟨vb, false, 2, 1, aC.map (LV.int .i64)⟩ :: G))
        (fun q => i + 1 ≤ q.2.1 ∧ q.2.1 ≤ ms.length ∧ ms.length - q.2.1 ≤ q.1 ∧ shI N r ms cs i q.1 q.2.1 q.2.2 = (j, m)) (fun q => ms.length - q.2.1) (ms.length, i + 1, ix ms i) ⟨Nat.le_refl _, hi, Nat.sub_le _ _, hj⟩ ?_ rfl ?_
      · simp only [junkAll, setAll, List.foldl_cons, List.foldl_nil, List.set_cons_succ, List.set_cons_zero, JL, true_or, or_true, and_true, true_and, reduceCtorEq, false_or, or_false, LV.int.injEq, LV.bool.injEq, LV.flt.injEq, LV.sl.injEq, LV.ptr.injEq, eq_self, Int.natCast_add, Int.natCast_one, Int.natCast_zero, Int.ofNat_zero]; rw [hcm]
      · intro ⟨fu, k, m0⟩ ⟨k0, k1, k2, k3⟩ K2 hK2
        simp only at k0 k1 k2 k3
        have hcb := cB_in hb ht (s := i) (i := k) (by omega) (by omega)
        simp only [junkAll, setAll, List.foldl_cons, List.foldl_nil, List.set_cons_succ, List.set_cons_zero]
        by_cases hk : k < ms.length
        · have hck := hb _ (ix_mem cs k (by omega))
          obtain ⟨B, hB⟩ : ∃ B, shBoth cs i k = B := ⟨_, rfl⟩
          have hB' : some (FloatKind.f32.nearest (cB cs i k + ix cs k)) = B := hB
          have hH : opC .quo .f32 B (some 1073741824) = opC .mul .f32 (some 1056964608) B := by rw [← hB]; exact half_op (by omega) (by omega)
          obtain ⟨Q, hQ⟩ : ∃ Q, shQ N cs i k = Q := ⟨_, rfl⟩
          have hQ' : opC .quo .f32 (opC .add .f32 (some (FloatKind.f32.nearest (sumI (cs.take i)))) (opC .mul .f32 (some 1056964608) B)) N = Q := by rw [← hQ, ← hB]; rfl
          obtain ⟨L, hL⟩ : ∃ L, shLim N r cs i k = L := ⟨_, rfl⟩
          have hL' : opC .quo .f32 (opC .mul .f32 (opC .mul .f32 (opC .mul .f32 (some 1082130432) N) Q) (opC .sub .f32 (some 1065353216) Q)) (some (FloatKind.f32.nearest r)) = L := by rw [← hL, ← hQ]; rfl
          obtain ⟨J, hJ⟩ : ∃ J, shJ0 ms cs i k m0 = J := ⟨_, rfl⟩
          have hJ' : opC .quo .f32 (opC .add .f32 (opC .mul .f32 m0 (some (FloatKind.f32.nearest (cB cs i k)))) (opC .mul .f32 (ix ms k) (some (FloatKind.f32.nearest (ix cs k))))) B = J := by rw [← hJ, ← hB]; rfl
          have hS : shJ ms cs i k m0 = clampLo (clampHi J (ix ms k)) m0 := by rw [← hJ]; rfl
          have hcs := cB_succ (cs := cs) (s := i) (i := k) (by omega)
          cases eT : fLe .f32 B L
          · have hst : shT N r cs i k = false := by unfold shT; rw [hB, hL]; exact eT
            rw [shI_stop (by rw [hst]; simp)] at k3
            obtain ⟨f1, f2⟩ := Prod.mk.inj k3; subst f1; subst f2
            have q5 : (aM ++ [m0]).length = aM.length + 1 := by simp
            have q6 : (aC ++ [cB cs i k]).length = aC.length + 1 := by simp
            repeat' (first
              | ((with_reducible refine hK _ _ ?_); clear hK K)
              | ((with_reducible refine hK _ ?_); clear hK K; try simp only [])
              | ((first | (with_reducible show AOp _ _ _ _ _ _ _) | (with_reducible show AQOp _ _ _ _ _ _ _)); simp (disch := first | ((with_reducible show liveO _ _ _ = true); first | assumption | (exact liveO_setS (by assumption)) | (exact PtL.live (by assumption)) | (exact PtL.liveA (by assumption) _) | (simp only [go_sem]; done)) | omega | assumption | rfl | (simp only [go_sem]; first | done | omega)) only [go_sem, reduceIte, reduceCtorEq, Nat.reduceAdd, Nat.reduceMul, Nat.reduceSub, Nat.reduceLeDiff, Nat.lt_irrefl, Nat.reduceLT, Nat.reduceEqDiff, Nat.reduceBEq, Int.reduceLE, Int.reduceLT, Int.reduceToNat, w64, eq_self, hp.get, hp.getA, h.lenm, h.idxmA, h.ldmA, h'.lenm, h'.idxmA, h'.ldmA, hB', hH, hQ', hL', eT])
              | (with_reducible refine AW_seq (fun K hK => ?_))
              | (with_reducible refine AW_region tyOk ?_)
              | ((with_reducible refine AW_quiet (id := 14) tyOk ?_ ?_ ?_); (kernel_rfl); (kernel_rfl))
              | (with_reducible refine AOps_cons (fun K hK => ?_))
              | (with_reducible refine AQOps_cons (fun K hK => ?_))
              | ((with_reducible refine AQOps_nil ?_); try simp only [thenA, blockA, if_true, if_false, reduceIte, Nat.reduceEqDiff, reduceCtorEq])
              | ((with_reducible refine AOps_nil ?_); try simp only [thenA, blockA, if_true, if_false, reduceIte, Nat.reduceEqDiff, reduceCtorEq])
              | (with_reducible refine AW_block ?_)
              | ((first | (with_reducible refine AW_ret ?_) | (with_reducible refine AW_skip ?_) | (with_reducible refine AW_exit ?_)); try simp only [thenA, blockA, if_true, if_false, reduceIte, Nat.reduceEqDiff, reduceCtorEq])
              | ((with_reducible show AW _ _ (.cond _ _ _) _ _ _); refine AW_cond rfl (fun hg => ?_) (fun hg => ?_) <;> first | (exfalso; simp only [reduceCtorEq] at hg; done) | ((try simp only [Bool.not_eq_true', Bool.not_eq_false', decide_eq_true_eq, decide_eq_false_iff_not] at hg); try (exfalso; omega)))
              | ((with_reducible show _ ∧ _); refine And.intro (fun hg => ?_) (fun hg => ?_) <;> (try simp only [Bool.not_eq_true', Bool.not_eq_false'] at hg) <;> simp only [hg] <;> (try simp only [decide_eq_true_eq, decide_eq_false_iff_not] at hg) <;> (try (exfalso; omega)))
              | ((first | (with_reducible apply FunH_intro) | (with_reducible apply AQ_intro)); (first | exact l05All_c _ _ _ _ _ _ _ (by first | assumption | exact PtL.app (by assumption) _ | exact PtL_h0 rfl | exact PtL_hj rfl) (by first | assumption | exact RdL.app (by assumption) _ | exact RdL_hj rfl (by simp) | exact RdL_h0 rfl (by simp) | exact RdL_nil | exact RdL_emp) (by first | assumption | omega | (simp; omega) | (simp; done)) (by first | assumption | (simp; done))))
              | (clear hK K)
              | fail)
            refine hK _ _ ((g, k, aM ++ [m0], aC ++ [cB cs i k]), (va + 1, vb + 1, ?G3)) ⟨by (try simp only); omega, by (try simp only); omega, by (try simp only); omega, hg2, hg3.symm.trans h4⟩ (by (try simp only); omega) ?j3 ?h3
            case h3 => (rw [List.map_append, List.map_append]; simp only [List.length_append, List.length_cons, List.length_nil, List.map_cons, List.map_nil]; rfl)
            case j3 => (simp only [junkAll, setAll, List.foldl_cons, List.foldl_nil, List.set_cons_succ, List.set_cons_zero, JL, true_or, or_true, and_true, true_and, reduceCtorEq, false_or, or_false, LV.int.injEq, LV.bool.injEq, LV.flt.injEq, LV.sl.injEq, LV.ptr.injEq, eq_self, Int.natCast_add, Int.natCast_one, Int.natCast_zero, Int.ofNat_zero]; unfold cB; omega)
          · have hst : shT N r cs i k = true := by unfold shT; rw [hB, hL]; exact eT
            obtain ⟨fu', q1, q2, q3⟩ := shI_more k2 hk hst
            rw [q3, hS] at k3
            repeat' (first
              | ((with_reducible refine hK _ _ ?_); clear hK K)
              | ((with_reducible refine hK _ ?_); clear hK K; try simp only [])
              | ((first | (with_reducible show AOp _ _ _ _ _ _ _) | (with_reducible show AQOp _ _ _ _ _ _ _)); simp (disch := first | ((with_reducible show liveO _ _ _ = true); first | assumption | (exact liveO_setS (by assumption)) | (exact PtL.live (by assumption)) | (exact PtL.liveA (by assumption) _) | (simp only [go_sem]; done)) | omega | assumption | rfl | (simp only [go_sem]; first | done | omega)) only [go_sem, reduceIte, reduceCtorEq, Nat.reduceAdd, Nat.reduceMul, Nat.reduceSub, Nat.reduceLeDiff, Nat.lt_irrefl, Nat.reduceLT, Nat.reduceEqDiff, Nat.reduceBEq, Int.reduceLE, Int.reduceLT, Int.reduceToNat, w64, eq_self, hp.get, hp.getA, h.lenm, h.idxmA, h.ldmA, h'.lenm, h'.idxmA, h'.ldmA, hB', hH, hQ', hL', eT, hJ'])
              | (with_reducible refine AW_seq (fun K hK => ?_))
              | (with_reducible refine AW_region tyOk ?_)
              | ((with_reducible refine AW_quiet (id := 14) tyOk ?_ ?_ ?_); (kernel_rfl); (kernel_rfl))
              | (with_reducible refine AOps_cons (fun K hK => ?_))
              | (with_reducible refine AQOps_cons (fun K hK => ?_))
              | ((with_reducible refine AQOps_nil ?_); try simp only [thenA, blockA, if_true, if_false, reduceIte, Nat.reduceEqDiff, reduceCtorEq])
              | ((with_reducible refine AOps_nil ?_); try simp only [thenA, blockA, if_true, if_false, reduceIte, Nat.reduceEqDiff, reduceCtorEq])
              | (with_reducible refine AW_block ?_)
              | ((first | (with_reducible refine AW_ret ?_) | (with_reducible refine AW_skip ?_) | (with_reducible refine AW_exit ?_)); try simp only [thenA, blockA, if_true, if_false, reduceIte, Nat.reduceEqDiff, reduceCtorEq])
              | ((with_reducible show AW _ _ (.cond _ _ _) _ _ _); refine AW_cond rfl (fun hg => ?_) (fun hg => ?_) <;> first | (exfalso; simp only [reduceCtorEq] at hg; done) | ((try simp only [Bool.not_eq_true', Bool.not_eq_false', decide_eq_true_eq, decide_eq_false_iff_not] at hg); try (exfalso; omega)))
              | ((with_reducible show _ ∧ _); refine And.intro (fun hg => ?_) (fun hg => ?_) <;> (try simp only [Bool.not_eq_true', Bool.not_eq_false'] at hg) <;> simp only [hg] <;> (try simp only [decide_eq_true_eq, decide_eq_false_iff_not] at hg) <;> (try (exfalso; omega)))
              | ((first | (with_reducible apply FunH_intro) | (with_reducible apply AQ_intro)); (first | exact l05All_c _ _ _ _ _ _ _ (by first | assumption | exact PtL.app (by assumption) _ | exact PtL_h0 rfl | exact PtL_hj rfl) (by first | assumption | exact RdL.app (by assumption) _ | exact RdL_hj rfl (by simp) | exact RdL_h0 rfl (by simp) | exact RdL_nil | exact RdL_emp) (by first | assumption | omega | (simp; omega) | (simp; done)) (by first | assumption | (simp; done))))
              | (clear hK K)
              | fail)
            all_goals (refine hK2 _ _ (fu', k + 1, clampLo (clampHi J (ix ms k)) m0) ⟨by (try simp only); omega, by (try simp only); omega, q2, k3⟩ (by (try simp only); omega) ?_ rfl)
            all_goals (simp only [junkAll, setAll, List.foldl_cons, List.foldl_nil, List.set_cons_succ, List.set_cons_zero, JL, true_or, or_true, and_true, true_and, reduceCtorEq, false_or, or_false, LV.int.injEq, LV.bool.injEq, LV.flt.injEq, LV.sl.injEq, LV.ptr.injEq, eq_self, Int.natCast_add, Int.natCast_one, Int.natCast_zero, Int.ofNat_zero]; rw [hcs])
            all_goals (unfold clampLo clampHi; simp_all)
        · have ek : k = ms.length := by omega
          subst ek
          rw [shI_stop (by omega)] at k3
          obtain ⟨f1, f2⟩ := Prod.mk.inj k3; subst f1; subst f2
          have q5 : (aM ++ [m0]).length = aM.length + 1 := by simp
          have q6 : (aC ++ [cB cs i ms.length]).length = aC.length + 1 := by simp
          repeat' (first
            | ((with_reducible refine hK _ _ ?_); clear hK K)
            | ((with_reducible refine hK _ ?_); clear hK K; try simp only [])
            | ((first | (with_reducible show AOp _ _ _ _ _ _ _) | (with_reducible show AQOp _ _ _ _ _ _ _)); simp (disch := first | ((with_reducible show liveO _ _ _ = true); first | assumption | (exact liveO_setS (by assumption)) | (exact PtL.live (by assumption)) | (exact PtL.liveA (by assumption) _) | (simp only [go_sem]; done)) | omega | assumption | rfl | (simp only [go_sem]; first | done | omega)) only [go_sem, reduceIte, reduceCtorEq, Nat.reduceAdd, Nat.reduceMul, Nat.reduceSub, Nat.reduceLeDiff, Nat.lt_irrefl, Nat.reduceLT, Nat.reduceEqDiff, Nat.reduceBEq, Int.reduceLE, Int.reduceLT, Int.reduceToNat, w64, eq_self, hp.get, hp.getA, h.lenm])
            | (with_reducible refine AW_seq (fun K hK => ?_))
            | (with_reducible refine AW_region tyOk ?_)
            | ((with_reducible refine AW_quiet (id := 14) tyOk ?_ ?_ ?_); (kernel_rfl); (kernel_rfl))
            | (with_reducible refine AOps_cons (fun K hK => ?_))
            | (with_reducible refine AQOps_cons (fun K hK => ?_))
            | ((with_reducible refine AQOps_nil ?_); try simp only [thenA, blockA, if_true, if_false, reduceIte, Nat.reduceEqDiff, reduceCtorEq])
            | ((with_reducible refine AOps_nil ?_); try simp only [thenA, blockA, if_true, if_false, reduceIte, Nat.reduceEqDiff, reduceCtorEq])
            | (with_reducible refine AW_block ?_)
            | ((first | (with_reducible refine AW_ret ?_) | (with_reducible refine AW_skip ?_) | (with_reducible refine AW_exit ?_)); try simp only [thenA, blockA, if_true, if_false, reduceIte, Nat.reduceEqDiff, reduceCtorEq])
            | ((with_reducible show AW _ _ (.cond _ _ _) _ _ _); refine AW_cond rfl (fun hg => ?_) (fun hg => ?_) <;> first | (exfalso; simp only [reduceCtorEq] at hg; done) | ((try simp only [Bool.not_eq_true', Bool.not_eq_false', decide_eq_true_eq, decide_eq_false_iff_not] at hg); try (exfalso; omega)))
            | ((with_reducible show _ ∧ _); refine And.intro (fun hg => ?_) (fun hg => ?_) <;> (try simp only [Bool.not_eq_true', Bool.not_eq_false'] at hg) <;> simp only [hg] <;> (try simp only [decide_eq_true_eq, decide_eq_false_iff_not] at hg) <;> (try (exfalso; omega)))
            | ((first | (with_reducible apply FunH_intro) | (with_reducible apply AQ_intro)); (first | exact l05All_c _ _ _ _ _ _ _ (by first | assumption | exact PtL.app (by assumption) _ | exact PtL_h0 rfl | exact PtL_hj rfl) (by first | assumption | exact RdL.app (by assumption) _ | exact RdL_hj rfl (by simp) | exact RdL_h0 rfl (by simp) | exact RdL_nil | exact RdL_emp) (by first | assumption | omega | (simp; omega) | (simp; done)) (by first | assumption | (simp; done))))
            | (clear hK K)
            | fail)
          refine hK _ _ ((g, ms.length, aM ++ [m0], aC ++ [cB cs i ms.length]), (va + 1, vb + 1, ?G4)) ⟨by (try simp only); omega, by (try simp only); omega, by (try simp only); omega, hg2, hg3.symm.trans h4⟩ (by (try simp only); omega) ?j4 ?h4
          case h4 => (rw [List.map_append, List.map_append]; simp only [List.length_append, List.length_cons, List.length_nil, List.map_cons, List.map_nil]; rfl)
          case j4 => (simp only [junkAll, setAll, List.foldl_cons, List.foldl_nil, List.set_cons_succ, List.set_cons_zero, JL, true_or, or_true, and_true, true_and, reduceCtorEq, false_or, or_false, LV.int.injEq, LV.bool.injEq, LV.flt.injEq, LV.sl.injEq, LV.ptr.injEq, eq_self, Int.natCast_add, Int.natCast_one, Int.natCast_zero, Int.ofNat_zero]; unfold cB; omega)
    · have ei : i = ms.length := by omega
      subst ei
      rw [shO_stop hi] at h4
      subst h4
      repeat' (first
        | ((with_reducible refine hK _ _ ?_); clear hK K)
        | ((with_reducible refine hK _ ?_); clear hK K; try simp only [])
        | ((first | (with_reducible show AOp _ _ _ _ _ _ _) | (with_reducible show AQOp _ _ _ _ _ _ _)); simp (disch := first | ((with_reducible show liveO _ _ _ = true); first | assumption | (exact liveO_setS (by assumption)) | (exact PtL.live (by assumption)) | (exact PtL.liveA (by assumption) _) | (simp only [go_sem]; done)) | omega | assumption | rfl | (simp only [go_sem]; first | done | omega)) only [go_sem, reduceIte, reduceCtorEq, Nat.reduceAdd, Nat.reduceMul, Nat.reduceSub, Nat.reduceLeDiff, Nat.lt_irrefl, Nat.reduceLT, Nat.reduceEqDiff, Nat.reduceBEq, Int.reduceLE, Int.reduceLT, Int.reduceToNat, w64, eq_self, hp.get, hp.getA, h.lenm])
        | (with_reducible refine AW_seq (fun K hK => ?_))
        | (with_reducible refine AW_region tyOk ?_)
        | ((with_reducible refine AW_quiet (id := 14) tyOk ?_ ?_ ?_); (kernel_rfl); (kernel_rfl))
        | (with_reducible refine AOps_cons (fun K hK => ?_))
        | (with_reducible refine AQOps_cons (fun K hK => ?_))
        | ((with_reducible refine AQOps_nil ?_); try simp only [thenA, blockA, if_true, if_false, reduceIte, Nat.reduceEqDiff, reduceCtorEq])
        | ((with_reducible refine AOps_nil ?_); try simp only [thenA, blockA, if_true, if_false, reduceIte, Nat.reduceEqDiff, reduceCtorEq])
        | (with_reducible refine AW_block ?_)
        | ((first | (with_reducible refine AW_ret ?_) | (with_reducible refine AW_skip ?_) | (with_reducible refine AW_exit ?_)); try simp only [thenA, blockA, if_true, if_false, reduceIte, Nat.reduceEqDiff, reduceCtorEq])
        | ((with_reducible show AW _ _ (.cond _ _ _) _ _ _); refine AW_cond rfl (fun hg => ?_) (fun hg => ?_) <;> first | (exfalso; simp only [reduceCtorEq] at hg; done) | ((try simp only [Bool.not_eq_true', Bool.not_eq_false', decide_eq_true_eq, decide_eq_false_iff_not] at hg); try (exfalso; omega)))
        | ((with_reducible show _ ∧ _); refine And.intro (fun hg => ?_) (fun hg => ?_) <;> (try simp only [Bool.not_eq_true', Bool.not_eq_false'] at hg) <;> simp only [hg] <;> (try simp only [decide_eq_true_eq, decide_eq_false_iff_not] at hg) <;> (try (exfalso; omega)))
        | ((first | (with_reducible apply FunH_intro) | (with_reducible apply AQ_intro)); (first | exact l05All_c _ _ _ _ _ _ _ (by first | assumption | exact PtL.app (by assumption) _ | exact PtL_h0 rfl | exact PtL_hj rfl) (by first | assumption | exact RdL.app (by assumption) _ | exact RdL_hj rfl (by simp) | exact RdL_h0 rfl (by simp) | exact RdL_nil | exact RdL_emp) (by first | assumption | omega | (simp; omega) | (simp; done)) (by first | assumption | (simp; done))))
        | (clear hK K)
        | fail)
      refine EndA_rows [some 2, some 3] hcl (by first | exact Or.inr rfl | exact Or.inl rfl) (by simp only [Try.results118, resA, aresL, go_sem, reduceIte, reduceCtorEq, Nat.reduceAdd, Nat.reduceMul, Nat.reduceSub, Nat.reduceLeDiff, Nat.lt_irrefl, Nat.reduceLT, Nat.reduceEqDiff, Nat.reduceBEq, Int.reduceLE, Int.reduceLT, Int.reduceToNat, w64, eq_self] <;> rfl) (by decide) ?_ ?_ ⟨rfl, rfl⟩
      rotate_left
      · repeat' (first | exact trivial | apply TdT.tup | apply TdT.one | apply TdL.agg | apply TdL.cell | exact TdB.old _ trivial rfl | exact TdB.own 0 2 _ _ _ _ rfl _ rfl rfl | exact TdB.own 1 3 _ _ _ _ rfl _ rfl rfl | exact TdB.junk _ | exact TdB.old _ (by assumption) (by assumption) | refine And.intro ?_ ?_)
      all_goals (repeat' (first | (with_reducible exact RowOk.none) | ((with_reducible apply RowOk.emp); exact rfl) | ((with_reducible apply RowOk.eq); (exact rfl); rotate_left; (first | (with_reducible exact scal_int _ _) | (with_reducible exact scal_flt _ _) | (with_reducible exact scal_bool _) | (intro c hc; cases hc; done) | (simp [LV.isCell, bnd]; done))) | exact trivial | refine And.intro ?_ ?_))
      all_goals (try rfl)
end Go.Proofs.Ytkkcfbpgcekmjaa
