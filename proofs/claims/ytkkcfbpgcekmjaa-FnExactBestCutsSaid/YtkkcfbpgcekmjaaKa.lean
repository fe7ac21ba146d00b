/- BestCuts: what is the best, in plain words; the error of some numbers on both sides. -/
import Derived.Test.YtkkcfbpgcekmjaaBk
import Derived.Test.YtkkcfbpgcekmjaaCl
import Derived.Test.YtkkcfbpgcekmjaaHl
namespace Go.Proofs.Ytkkcfbpgcekmjaa
open Go.RowKit
set_option linter.unusedSimpArgs false
set_option linter.unusedVariables false
set_option maxRecDepth 100000

/-! A row that is filled from the left. -/
def upd {α : Type} (f : Nat → α) (z : α) (n k : Nat) : List α := (List.range n).map fun j => if j < k then f j else z
section
variable {α : Type} {f : Nat → α} {z : α} {n k : Nat}
theorem upd_len : (upd f z n k).length = n := by simp [upd]
theorem upd_get {j : Nat} (h : j < n) : (upd f z n k)[j]? = some (if j < k then f j else z) := by simp [upd, List.getElem?_range, h]
theorem upd_zero : upd f z n 0 = List.replicate n z := by
  apply List.ext_getElem?; intro i
  by_cases h : i < n
  · rw [upd_get h, List.getElem?_replicate, if_pos h]; rfl
  · rw [List.getElem?_eq_none (by rw [upd_len]; omega), List.getElem?_eq_none (by rw [List.length_replicate]; omega)]
theorem upd_set (h : k < n) : (upd f z n k).set k (f k) = upd f z n (k + 1) := by
  apply List.ext_getElem?; intro i
  by_cases hi : i < n
  · rw [List.getElem?_set, upd_get hi, upd_get hi, upd_len]
    by_cases e : k = i
    · subst e; simp [h]
    · rw [if_neg e]
      by_cases h1 : i < k
      · rw [if_pos h1, if_pos (by omega)]
      · rw [if_neg h1, if_neg (by omega)]
  · rw [List.getElem?_eq_none (by rw [List.length_set, upd_len]; omega), List.getElem?_eq_none (by rw [upd_len]; omega)]
theorem upd_same (h : f k = z) : upd f z n k = upd f z n (k + 1) := by
  apply List.ext_getElem?; intro i
  by_cases hi : i < n
  · rw [upd_get hi, upd_get hi]
    by_cases e : i = k
    · subst e; simp [h]
    · by_cases h1 : i < k
      · rw [if_pos h1, if_pos (by omega)]
      · rw [if_neg h1, if_neg (by omega)]
  · rw [List.getElem?_eq_none (by rw [upd_len]; omega), List.getElem?_eq_none (by rw [upd_len]; omega)]
theorem upd_low {m : Nat} (h : ∀ j, j < m → f j = z) : upd f z n m = upd f z n 0 := by
  apply List.ext_getElem?; intro i
  by_cases hi : i < n
  · rw [upd_get hi, upd_get hi]
    by_cases e : i < m
    · rw [if_pos e, if_neg (by omega), h i e]
    · rw [if_neg e, if_neg (by omega)]
  · rw [List.getElem?_eq_none (by rw [upd_len]; omega), List.getElem?_eq_none (by rw [upd_len]; omega)]
theorem upd_full (h : n ≤ k) : upd f z n k = (List.range n).map f := by
  apply List.ext_getElem?; intro i
  by_cases hi : i < n
  · rw [upd_get hi, if_pos (by omega)]; simp [hi]
  · rw [List.getElem?_eq_none (by rw [upd_len]; omega), List.getElem?_eq_none (by simp; omega)]
theorem upd_setz (h : k < n) : (upd f z n k).set k z = upd f z n k := by
  apply List.ext_getElem?; intro i
  rw [List.getElem?_set, upd_len]
  by_cases e : k = i
  · subst e; rw [if_pos rfl, if_pos h, upd_get h, if_neg (by omega)]
  · rw [if_neg e]
theorem upd_map {β : Type} (g : α → β) : (upd f z n k).map g = upd (fun j => g (f j)) (g z) n k := by
  unfold upd; rw [List.map_map]
  apply List.map_congr_left
  intro j _
  show g (if j < k then f j else z) = _
  split <;> rfl
end
/-! The error of some numbers. -/
def nK (n : Int) : Option Nat := some (FloatKind.f32.nearest n)
def ceS (xs : List (Option Nat)) : Option Nat := xs.foldl (fun s x => opC .add .f32 s (opC .mul .f32 x x)) (some 0)
def ceT (xs : List (Option Nat)) : Option Nat := xs.foldl (opC .add .f32) (some 0)
def ceV (xs : List (Option Nat)) : Option Nat := opC .sub .f32 (ceS xs) (opC .quo .f32 (opC .mul .f32 (ceT xs) (ceT xs)) (nK (xs.length : Nat)))
def ceO (xs : List (Option Nat)) : Option Nat := if fLt .f32 (ceV xs) (some 0) then some 0 else ceV xs
theorem ceS_take {xs : List (Option Nat)} {k : Nat} (h : k < xs.length) : ceS (xs.take (k + 1)) = opC .add .f32 (ceS (xs.take k)) (opC .mul .f32 (ix xs k) (ix xs k)) := by
  unfold ceS; rw [take_ix _ _ h, List.foldl_append]; rfl
theorem ceT_take {xs : List (Option Nat)} {k : Nat} (h : k < xs.length) : ceT (xs.take (k + 1)) = opC .add .f32 (ceT (xs.take k)) (ix xs k) := by
  unfold ceT; rw [take_ix _ _ h, List.foldl_append]; rfl
def seg {α : Type} (xs : List α) (i k : Nat) : List α := (xs.drop i).take (k - i)
theorem seg_len {α : Type} {xs : List α} {i k : Nat} (h1 : i ≤ k) (h : k ≤ xs.length) : (seg xs i k).length = k - i := by unfold seg; simp; omega
theorem seg_succ {α : Type} [Inhabited α] {xs : List α} {i k : Nat} (h1 : i ≤ k) (h : k < xs.length) : seg xs i (k + 1) = seg xs i k ++ [ix xs k] := by
  unfold seg
  rw [show k + 1 - i = (k - i) + 1 by omega, take_ix (xs.drop i) (k - i) (by simp; omega)]
  congr 2
  rw [ix_eq _ _ (by simp; omega), ix_eq _ _ h, List.getElem_drop]
  congr 1; omega
def eK (xs : List (Option Nat)) (i k : Nat) : Option Nat := ceO (seg xs i k)
theorem cutError_c (lv : LV) (xs : List (Option Nat)) (H : Hp) (h : RdL H lv (xs.map (LV.flt .f32))) (hn : xs.length ≤ 256) : FunH Try.prog 108 [lv] H fun r H' => r = .flt .f32 (ceO xs) ∧ H' = H := by
  (refine FunH_body tyOk Try.func108 rfl (by kernel_rfl) Try.ntmps108 (fun hcl hbd => ?_); simp only [List.length_cons, List.length_nil, Nat.reduceAdd, Nat.reduceSub, List.replicate, List.cons_append, List.nil_append])
  repeat' (first
    | ((with_reducible refine hK _ _ ?_); clear hK K)
    | ((first | (with_reducible show AOp _ _ _ _ _ _ _)); simp (disch := first | ((with_reducible show liveO _ _ _ = true); first | assumption | (exact liveO_setS (by assumption)) | (exact PtL.live (by assumption)) | (exact PtL.liveA (by assumption) _) | (simp only [go_sem]; done)) | omega | assumption | rfl | (simp only [go_sem]; first | done | omega)) only [go_sem, reduceIte, reduceCtorEq, Nat.reduceAdd, Nat.reduceMul, Nat.reduceSub, Nat.reduceLeDiff, Nat.lt_irrefl, Nat.reduceLT, Nat.reduceEqDiff, Nat.reduceBEq, Int.reduceLE, Int.reduceLT, Int.reduceToNat, w64, eq_self, h.lenm])
    | (with_reducible refine AW_seq (fun K hK => ?_))
    | (with_reducible refine AW_region tyOk ?_)
    | (with_reducible refine AOps_cons (fun K hK => ?_))
    | ((with_reducible refine AOps_nil ?_); try simp only [thenA, blockA, if_true, if_false, reduceIte, Nat.reduceEqDiff, reduceCtorEq])
    | (with_reducible refine AW_block ?_)
    | ((first | (with_reducible refine AW_ret ?_) | (with_reducible refine AW_skip ?_) | (with_reducible refine AW_exit ?_)); try simp only [thenA, blockA, if_true, if_false, reduceIte, Nat.reduceEqDiff, reduceCtorEq])
    | ((with_reducible show AW _ _ (.cond _ _ _) _ _ _); refine AW_cond rfl (fun hg => ?_) (fun hg => ?_) <;> first | (exfalso; simp only [reduceCtorEq] at hg; done) | ((try simp only [Bool.not_eq_true', Bool.not_eq_false', decide_eq_true_eq, decide_eq_false_iff_not] at hg); try (exfalso; omega)))
    | ((with_reducible show _ ∧ _); refine And.intro (fun hg => ?_) (fun hg => ?_) <;> (try simp only [Bool.not_eq_true', Bool.not_eq_false'] at hg) <;> simp only [hg] <;> (try simp only [decide_eq_true_eq, decide_eq_false_iff_not] at hg) <;> (try (exfalso; omega)))
    | (clear hK K)
    | fail)
  refine AW_loopV [3, 4, 6, 10, 11, 12, 13, 14, 15, 16, 17, 18, 19, 20, 21, 22] (fun k : Nat => [(3, .flt .f32 (ceS (xs.take k))), (4, .flt .f32 (ceT (xs.take k))), (10, .int .i64 (k : Nat))]) (fun _ => H) (fun k => k ≤ xs.length) (fun k => xs.length - k) 0 (Nat.zero_le _) ?_ rfl ?_
  · simp only [junkAll, setAll, List.foldl_cons, List.foldl_nil, List.set_cons_succ, List.set_cons_zero, JL, true_or, or_true, and_true, true_and, reduceCtorEq, false_or, or_false, LV.int.injEq, LV.bool.injEq, LV.flt.injEq, LV.sl.injEq, LV.ptr.injEq, eq_self, Int.natCast_add, Int.natCast_one, Int.natCast_zero, Int.ofNat_zero]; exact ⟨rfl, rfl⟩
  · intro k hk K hK
    simp only [junkAll, setAll, List.foldl_cons, List.foldl_nil, List.set_cons_succ, List.set_cons_zero]
    by_cases hkl : k < xs.length
    · repeat' (first
        | ((with_reducible refine hK _ _ ?_); clear hK K)
        | ((first | (with_reducible show AOp _ _ _ _ _ _ _)); simp (disch := first | ((with_reducible show liveO _ _ _ = true); first | assumption | (exact liveO_setS (by assumption)) | (exact PtL.live (by assumption)) | (exact PtL.liveA (by assumption) _) | (simp only [go_sem]; done)) | omega | assumption | rfl | (simp only [go_sem]; first | done | omega)) only [go_sem, reduceIte, reduceCtorEq, Nat.reduceAdd, Nat.reduceMul, Nat.reduceSub, Nat.reduceLeDiff, Nat.lt_irrefl, Nat.reduceLT, Nat.reduceEqDiff, Nat.reduceBEq, Int.reduceLE, Int.reduceLT, Int.reduceToNat, w64, eq_self, h.lenm, h.idxm, h.ldm])
        | (with_reducible refine AW_seq (fun K hK => ?_))
        | (with_reducible refine AW_region tyOk ?_)
        | (with_reducible refine AOps_cons (fun K hK => ?_))
        | ((with_reducible refine AOps_nil ?_); try simp only [thenA, blockA, if_true, if_false, reduceIte, Nat.reduceEqDiff, reduceCtorEq])
        | (with_reducible refine AW_block ?_)
        | ((first | (with_reducible refine AW_ret ?_) | (with_reducible refine AW_skip ?_) | (with_reducible refine AW_exit ?_)); try simp only [thenA, blockA, if_true, if_false, reduceIte, Nat.reduceEqDiff, reduceCtorEq])
        | ((with_reducible show AW _ _ (.cond _ _ _) _ _ _); refine AW_cond rfl (fun hg => ?_) (fun hg => ?_) <;> first | (exfalso; simp only [reduceCtorEq] at hg; done) | ((try simp only [Bool.not_eq_true', Bool.not_eq_false', decide_eq_true_eq, decide_eq_false_iff_not] at hg); try (exfalso; omega)))
        | ((with_reducible show _ ∧ _); refine And.intro (fun hg => ?_) (fun hg => ?_) <;> (try simp only [Bool.not_eq_true', Bool.not_eq_false'] at hg) <;> simp only [hg] <;> (try simp only [decide_eq_true_eq, decide_eq_false_iff_not] at hg) <;> (try (exfalso; omega)))
        | (clear hK K)
        | fail)
      refine hK _ _ (k + 1) (by omega) (by omega) ?_ rfl
      simp only [junkAll, setAll, List.foldl_cons, List.foldl_nil, List.set_cons_succ, List.set_cons_zero, JL, true_or, or_true, and_true, true_and, reduceCtorEq, false_or, or_false, LV.int.injEq, LV.bool.injEq, LV.flt.injEq, LV.sl.injEq, LV.ptr.injEq, eq_self, Int.natCast_add, Int.natCast_one, Int.natCast_zero, Int.ofNat_zero]; exact ⟨(ceS_take hkl).symm, (ceT_take hkl).symm⟩
    · have e : k = xs.length := by omega
      subst e
      rw [List.take_length]
      have hN : nK (xs.length : Nat) = some (FloatKind.f32.nearest (xs.length : Nat)) := rfl
      have hO : ceO xs = if fLt .f32 (ceV xs) (some 0) then some 0 else ceV xs := rfl
      have hV : ceV xs = opC .sub .f32 (ceS xs) (opC .quo .f32 (opC .mul .f32 (ceT xs) (ceT xs)) (some (FloatKind.f32.nearest (xs.length : Nat)))) := rfl
      by_cases hlt : fLt .f32 (ceV xs) (some 0) = true
      · have hl0 := hlt
        rw [hV] at hlt
        repeat' (first
          | ((with_reducible refine hK _ _ ?_); clear hK K)
          | ((first | (with_reducible show AOp _ _ _ _ _ _ _)); simp (disch := first | ((with_reducible show liveO _ _ _ = true); first | assumption | (exact liveO_setS (by assumption)) | (exact PtL.live (by assumption)) | (exact PtL.liveA (by assumption) _) | (simp only [go_sem]; done)) | omega | assumption | rfl | (simp only [go_sem]; first | done | omega)) only [go_sem, reduceIte, reduceCtorEq, Nat.reduceAdd, Nat.reduceMul, Nat.reduceSub, Nat.reduceLeDiff, Nat.lt_irrefl, Nat.reduceLT, Nat.reduceEqDiff, Nat.reduceBEq, Int.reduceLE, Int.reduceLT, Int.reduceToNat, w64, eq_self, h.lenm, hlt])
          | (with_reducible refine AW_seq (fun K hK => ?_))
          | (with_reducible refine AW_region tyOk ?_)
          | (with_reducible refine AOps_cons (fun K hK => ?_))
          | ((with_reducible refine AOps_nil ?_); try simp only [thenA, blockA, if_true, if_false, reduceIte, Nat.reduceEqDiff, reduceCtorEq])
          | (with_reducible refine AW_block ?_)
          | ((first | (with_reducible refine AW_ret ?_) | (with_reducible refine AW_skip ?_) | (with_reducible refine AW_exit ?_)); try simp only [thenA, blockA, if_true, if_false, reduceIte, Nat.reduceEqDiff, reduceCtorEq])
          | ((with_reducible show AW _ _ (.cond _ _ _) _ _ _); refine AW_cond rfl (fun hg => ?_) (fun hg => ?_) <;> first | (exfalso; simp only [reduceCtorEq] at hg; done) | ((try simp only [Bool.not_eq_true', Bool.not_eq_false', decide_eq_true_eq, decide_eq_false_iff_not] at hg); try (exfalso; omega)))
          | ((with_reducible show _ ∧ _); refine And.intro (fun hg => ?_) (fun hg => ?_) <;> (try simp only [Bool.not_eq_true', Bool.not_eq_false'] at hg) <;> simp only [hg] <;> (try simp only [decide_eq_true_eq, decide_eq_false_iff_not] at hg) <;> (try (exfalso; omega)))
          | (clear hK K)
          | fail)
        all_goals (first | refine EndA_cut hcl (by first | exact Or.inr rfl | exact Or.inl rfl) (by simp only [Try.results108, resA, aresL, go_sem, reduceIte, reduceCtorEq, Nat.reduceAdd, Nat.reduceMul, Nat.reduceSub, Nat.reduceLeDiff, Nat.lt_irrefl, Nat.reduceLT, Nat.reduceEqDiff, Nat.reduceBEq, Int.reduceLE, Int.reduceLT, Int.reduceToNat, w64, eq_self] <;> rfl) rfl ?_ | refine EndA_same (by first | exact Or.inr rfl | exact Or.inl rfl) (by simp only [Try.results108, resA, aresL, go_sem, reduceIte, reduceCtorEq, Nat.reduceAdd, Nat.reduceMul, Nat.reduceSub, Nat.reduceLeDiff, Nat.lt_irrefl, Nat.reduceLT, Nat.reduceEqDiff, Nat.reduceBEq, Int.reduceLE, Int.reduceLT, Int.reduceToNat, w64, eq_self] <;> rfl) ?_)
        all_goals exact ⟨by rw [hO, if_pos hl0], rfl⟩
      · have hl0 := hlt
        rw [hV] at hlt
        repeat' (first
          | ((with_reducible refine hK _ _ ?_); clear hK K)
          | ((first | (with_reducible show AOp _ _ _ _ _ _ _)); simp (disch := first | ((with_reducible show liveO _ _ _ = true); first | assumption | (exact liveO_setS (by assumption)) | (exact PtL.live (by assumption)) | (exact PtL.liveA (by assumption) _) | (simp only [go_sem]; done)) | omega | assumption | rfl | (simp only [go_sem]; first | done | omega)) only [go_sem, reduceIte, reduceCtorEq, Nat.reduceAdd, Nat.reduceMul, Nat.reduceSub, Nat.reduceLeDiff, Nat.lt_irrefl, Nat.reduceLT, Nat.reduceEqDiff, Nat.reduceBEq, Int.reduceLE, Int.reduceLT, Int.reduceToNat, w64, eq_self, h.lenm, hlt])
          | (with_reducible refine AW_seq (fun K hK => ?_))
          | (with_reducible refine AW_region tyOk ?_)
          | (with_reducible refine AOps_cons (fun K hK => ?_))
          | ((with_reducible refine AOps_nil ?_); try simp only [thenA, blockA, if_true, if_false, reduceIte, Nat.reduceEqDiff, reduceCtorEq])
          | (with_reducible refine AW_block ?_)
          | ((first | (with_reducible refine AW_ret ?_) | (with_reducible refine AW_skip ?_) | (with_reducible refine AW_exit ?_)); try simp only [thenA, blockA, if_true, if_false, reduceIte, Nat.reduceEqDiff, reduceCtorEq])
          | ((with_reducible show AW _ _ (.cond _ _ _) _ _ _); refine AW_cond rfl (fun hg => ?_) (fun hg => ?_) <;> first | (exfalso; simp only [reduceCtorEq] at hg; done) | ((try simp only [Bool.not_eq_true', Bool.not_eq_false', decide_eq_true_eq, decide_eq_false_iff_not] at hg); try (exfalso; omega)))
          | ((with_reducible show _ ∧ _); refine And.intro (fun hg => ?_) (fun hg => ?_) <;> (try simp only [Bool.not_eq_true', Bool.not_eq_false'] at hg) <;> simp only [hg] <;> (try simp only [decide_eq_true_eq, decide_eq_false_iff_not] at hg) <;> (try (exfalso; omega)))
          | (clear hK K)
          | fail)
        all_goals (first | refine EndA_cut hcl (by first | exact Or.inr rfl | exact Or.inl rfl) (by simp only [Try.results108, resA, aresL, go_sem, reduceIte, reduceCtorEq, Nat.reduceAdd, Nat.reduceMul, Nat.reduceSub, Nat.reduceLeDiff, Nat.lt_irrefl, Nat.reduceLT, Nat.reduceEqDiff, Nat.reduceBEq, Int.reduceLE, Int.reduceLT, Int.reduceToNat, w64, eq_self] <;> rfl) rfl ?_ | refine EndA_same (by first | exact Or.inr rfl | exact Or.inl rfl) (by simp only [Try.results108, resA, aresL, go_sem, reduceIte, reduceCtorEq, Nat.reduceAdd, Nat.reduceMul, Nat.reduceSub, Nat.reduceLeDiff, Nat.lt_irrefl, Nat.reduceLT, Nat.reduceEqDiff, Nat.reduceBEq, Int.reduceLE, Int.reduceLT, Int.reduceToNat, w64, eq_self] <;> rfl) ?_)
        all_goals exact ⟨by rw [hO, if_neg hl0, hV], rfl⟩
theorem l05Error_c (lv : LV) (xs : List (Option Nat)) (i k : Nat) (H : Hp) (h : RdL H lv (xs.map (LV.flt .f32))) (hn : xs.length ≤ 256) (h1 : i ≤ k) (h2 : k ≤ xs.length) : FunH Try.prog 106 [lv, .int .i64 (i : Nat), .int .i64 (k : Nat)] H fun r H' => r = .flt .f32 (eK xs i k) ∧ H' = H := by
  (refine FunH_body tyOk Try.func106 rfl (by kernel_rfl) Try.ntmps106 (fun hcl hbd => ?_); simp only [List.length_cons, List.length_nil, Nat.reduceAdd, Nat.reduceSub, List.replicate, List.cons_append, List.nil_append])
  repeat' (first
    | ((with_reducible refine hK _ _ ?_); clear hK K)
    | ((with_reducible refine hK _ ?_); clear hK K; try simp only [])
    | ((first | (with_reducible show AOp _ _ _ _ _ _ _) | (with_reducible show AQOp _ _ _ _ _ _ _)); simp (disch := first | ((with_reducible show liveO _ _ _ = true); first | assumption | (exact liveO_setS (by assumption)) | (exact PtL.live (by assumption)) | (exact PtL.liveA (by assumption) _) | (simp only [go_sem]; done)) | omega | assumption | rfl | (simp only [go_sem]; first | done | omega)) only [go_sem, reduceIte, reduceCtorEq, Nat.reduceAdd, Nat.reduceMul, Nat.reduceSub, Nat.reduceLeDiff, Nat.lt_irrefl, Nat.reduceLT, Nat.reduceEqDiff, Nat.reduceBEq, Int.reduceLE, Int.reduceLT, Int.reduceToNat, w64, eq_self])
    | (with_reducible refine AW_seq (fun K hK => ?_))
    | (with_reducible refine AW_region tyOk ?_)
    | ((with_reducible refine AW_quiet (id := 6) tyOk ?_ ?_ ?_); (kernel_rfl); (kernel_rfl))
    | (with_reducible refine AOps_cons (fun K hK => ?_))
    | (with_reducible refine AQOps_cons (fun K hK => ?_))
    | ((with_reducible refine AQOps_nil ?_); try simp only [thenA, blockA, if_true, if_false, reduceIte, Nat.reduceEqDiff, reduceCtorEq])
    | ((with_reducible refine AOps_nil ?_); try simp only [thenA, blockA, if_true, if_false, reduceIte, Nat.reduceEqDiff, reduceCtorEq])
    | (with_reducible refine AW_block ?_)
    | ((first | (with_reducible refine AW_ret ?_) | (with_reducible refine AW_skip ?_) | (with_reducible refine AW_exit ?_)); try simp only [thenA, blockA, if_true, if_false, reduceIte, Nat.reduceEqDiff, reduceCtorEq])
    | ((with_reducible show AW _ _ (.cond _ _ _) _ _ _); refine AW_cond rfl (fun hg => ?_) (fun hg => ?_) <;> first | (exfalso; simp only [reduceCtorEq] at hg; done) | ((try simp only [Bool.not_eq_true', Bool.not_eq_false', decide_eq_true_eq, decide_eq_false_iff_not] at hg); try (exfalso; omega)))
    | ((with_reducible show _ ∧ _); refine And.intro (fun hg => ?_) (fun hg => ?_) <;> (try simp only [Bool.not_eq_true', Bool.not_eq_false'] at hg) <;> simp only [hg] <;> (try simp only [decide_eq_true_eq, decide_eq_false_iff_not] at hg) <;> (try (exfalso; omega)))
    | (clear hK K)
    | fail)
  refine AW_loopV [7, 8, 9, 12, 13, 14, 15, 16, 17, 18, 19, 20, 21, 22, 23, 24, 25, 26, 27, 28, 29, 30, 31, 32, 33] (fun j : Nat => [(7, .flt .f32 (ceS (seg xs i j))), (8, .flt .f32 (ceT (seg xs i j))), (9, .int .i64 (j : Nat))]) (fun _ => H) (fun j => i ≤ j ∧ j ≤ k) (fun j => k - j) i ⟨Nat.le_refl _, h1⟩ ?_ rfl ?_
  · simp only [junkAll, setAll, List.foldl_cons, List.foldl_nil, List.set_cons_succ, List.set_cons_zero, JL, true_or, or_true, and_true, true_and, reduceCtorEq, false_or, or_false, LV.int.injEq, LV.bool.injEq, LV.flt.injEq, LV.sl.injEq, LV.ptr.injEq, eq_self, Int.natCast_add, Int.natCast_one, Int.natCast_zero, Int.ofNat_zero]; unfold seg; rw [Nat.sub_self, List.take_zero]; exact ⟨rfl, rfl⟩
  · intro j ⟨hj0, hj⟩ K hK
    simp only [junkAll, setAll, List.foldl_cons, List.foldl_nil, List.set_cons_succ, List.set_cons_zero]
    by_cases hkl : j < k
    · have hjn : j < xs.length := by omega
      repeat' (first
        | ((with_reducible refine hK _ _ ?_); clear hK K)
        | ((with_reducible refine hK _ ?_); clear hK K; try simp only [])
        | ((first | (with_reducible show AOp _ _ _ _ _ _ _) | (with_reducible show AQOp _ _ _ _ _ _ _)); simp (disch := first | ((with_reducible show liveO _ _ _ = true); first | assumption | (exact liveO_setS (by assumption)) | (exact PtL.live (by assumption)) | (exact PtL.liveA (by assumption) _) | (simp only [go_sem]; done)) | omega | assumption | rfl | (simp only [go_sem]; first | done | omega)) only [go_sem, reduceIte, reduceCtorEq, Nat.reduceAdd, Nat.reduceMul, Nat.reduceSub, Nat.reduceLeDiff, Nat.lt_irrefl, Nat.reduceLT, Nat.reduceEqDiff, Nat.reduceBEq, Int.reduceLE, Int.reduceLT, Int.reduceToNat, w64, eq_self, h.lenm, h.idxm, h.ldm])
        | (with_reducible refine AW_seq (fun K hK => ?_))
        | (with_reducible refine AW_region tyOk ?_)
        | ((with_reducible refine AW_quiet (id := 6) tyOk ?_ ?_ ?_); (kernel_rfl); (kernel_rfl))
        | (with_reducible refine AOps_cons (fun K hK => ?_))
        | (with_reducible refine AQOps_cons (fun K hK => ?_))
        | ((with_reducible refine AQOps_nil ?_); try simp only [thenA, blockA, if_true, if_false, reduceIte, Nat.reduceEqDiff, reduceCtorEq])
        | ((with_reducible refine AOps_nil ?_); try simp only [thenA, blockA, if_true, if_false, reduceIte, Nat.reduceEqDiff, reduceCtorEq])
        | (with_reducible refine AW_block ?_)
        | ((first | (with_reducible refine AW_ret ?_) | (with_reducible refine AW_skip ?_) | (with_reducible refine AW_exit ?_)); try simp only [thenA, blockA, if_true, if_false, reduceIte, Nat.reduceEqDiff, reduceCtorEq])
        | ((with_reducible show AW _ _ (.cond _ _ _) _ _ _); refine AW_cond rfl (fun hg => ?_) (fun hg => ?_) <;> first | (exfalso; simp only [reduceCtorEq] at hg; done) | ((try simp only [Bool.not_eq_true', Bool.not_eq_false', decide_eq_true_eq, decide_eq_false_iff_not] at hg); try (exfalso; omega)))
        | ((with_reducible show _ ∧ _); refine And.intro (fun hg => ?_) (fun hg => ?_) <;> (try simp only [Bool.not_eq_true', Bool.not_eq_false'] at hg) <;> simp only [hg] <;> (try simp only [decide_eq_true_eq, decide_eq_false_iff_not] at hg) <;> (try (exfalso; omega)))
        | (clear hK K)
        | fail)
      refine hK _ _ (j + 1) (by omega) (by omega) ?_ rfl
      simp only [junkAll, setAll, List.foldl_cons, List.foldl_nil, List.set_cons_succ, List.set_cons_zero, JL, true_or, or_true, and_true, true_and, reduceCtorEq, false_or, or_false, LV.int.injEq, LV.bool.injEq, LV.flt.injEq, LV.sl.injEq, LV.ptr.injEq, eq_self, Int.natCast_add, Int.natCast_one, Int.natCast_zero, Int.ofNat_zero]
      unfold ceS ceT
      rw [seg_succ hj0 hjn, List.foldl_append, List.foldl_append]; exact ⟨rfl, rfl⟩
    · have e : j = k := by omega
      subst e
      have hl := seg_len h1 h2
      have hlI : (((seg xs i j).length : Nat) : Int) = (j : Int) - (i : Int) := by omega
      have hO : eK xs i j = if fLt .f32 (ceV (seg xs i j)) (some 0) then some 0 else ceV (seg xs i j) := rfl
      have hV : ceV (seg xs i j) = opC .sub .f32 (ceS (seg xs i j)) (opC .quo .f32 (opC .mul .f32 (ceT (seg xs i j)) (ceT (seg xs i j))) (some (FloatKind.f32.nearest ((j : Int) - (i : Int))))) := by unfold ceV nK; rw [hlI]
      by_cases hlt : fLt .f32 (ceV (seg xs i j)) (some 0) = true
      · have hl0 := hlt
        rw [hV] at hlt
        repeat' (first
          | ((with_reducible refine hK _ _ ?_); clear hK K)
          | ((with_reducible refine hK _ ?_); clear hK K; try simp only [])
          | ((first | (with_reducible show AOp _ _ _ _ _ _ _) | (with_reducible show AQOp _ _ _ _ _ _ _)); simp (disch := first | ((with_reducible show liveO _ _ _ = true); first | assumption | (exact liveO_setS (by assumption)) | (exact PtL.live (by assumption)) | (exact PtL.liveA (by assumption) _) | (simp only [go_sem]; done)) | omega | assumption | rfl | (simp only [go_sem]; first | done | omega)) only [go_sem, reduceIte, reduceCtorEq, Nat.reduceAdd, Nat.reduceMul, Nat.reduceSub, Nat.reduceLeDiff, Nat.lt_irrefl, Nat.reduceLT, Nat.reduceEqDiff, Nat.reduceBEq, Int.reduceLE, Int.reduceLT, Int.reduceToNat, w64, eq_self, h.lenm, hlt])
          | (with_reducible refine AW_seq (fun K hK => ?_))
          | (with_reducible refine AW_region tyOk ?_)
          | ((with_reducible refine AW_quiet (id := 6) tyOk ?_ ?_ ?_); (kernel_rfl); (kernel_rfl))
          | (with_reducible refine AOps_cons (fun K hK => ?_))
          | (with_reducible refine AQOps_cons (fun K hK => ?_))
          | ((with_reducible refine AQOps_nil ?_); try simp only [thenA, blockA, if_true, if_false, reduceIte, Nat.reduceEqDiff, reduceCtorEq])
          | ((with_reducible refine AOps_nil ?_); try simp only [thenA, blockA, if_true, if_false, reduceIte, Nat.reduceEqDiff, reduceCtorEq])
          | (with_reducible refine AW_block ?_)
          | ((first | (with_reducible refine AW_ret ?_) | (with_reducible refine AW_skip ?_) | (with_reducible refine AW_exit ?_)); try simp only [thenA, blockA, if_true, if_false, reduceIte, Nat.reduceEqDiff, reduceCtorEq])
          | ((with_reducible show AW _ _ (.cond _ _ _) _ _ _); refine AW_cond rfl (fun hg => ?_) (fun hg => ?_) <;> first | (exfalso; simp only [reduceCtorEq] at hg; done) | ((try simp only [Bool.not_eq_true', Bool.not_eq_false', decide_eq_true_eq, decide_eq_false_iff_not] at hg); try (exfalso; omega)))
          | ((with_reducible show _ ∧ _); refine And.intro (fun hg => ?_) (fun hg => ?_) <;> (try simp only [Bool.not_eq_true', Bool.not_eq_false'] at hg) <;> simp only [hg] <;> (try simp only [decide_eq_true_eq, decide_eq_false_iff_not] at hg) <;> (try (exfalso; omega)))
          | (clear hK K)
          | fail)
        all_goals (first | refine EndA_cut hcl (by first | exact Or.inr rfl | exact Or.inl rfl) (by simp only [Try.results106, resA, aresL, go_sem, reduceIte, reduceCtorEq, Nat.reduceAdd, Nat.reduceMul, Nat.reduceSub, Nat.reduceLeDiff, Nat.lt_irrefl, Nat.reduceLT, Nat.reduceEqDiff, Nat.reduceBEq, Int.reduceLE, Int.reduceLT, Int.reduceToNat, w64, eq_self] <;> rfl) rfl ?_ | refine EndA_same (by first | exact Or.inr rfl | exact Or.inl rfl) (by simp only [Try.results106, resA, aresL, go_sem, reduceIte, reduceCtorEq, Nat.reduceAdd, Nat.reduceMul, Nat.reduceSub, Nat.reduceLeDiff, Nat.lt_irrefl, Nat.reduceLT, Nat.reduceEqDiff, Nat.reduceBEq, Int.reduceLE, Int.reduceLT, Int.reduceToNat, w64, eq_self] <;> rfl) ?_)
        all_goals exact ⟨by rw [hO, if_pos hl0], rfl⟩
      · have hl0 := hlt
        rw [hV] at hlt
        repeat' (first
          | ((with_reducible refine hK _ _ ?_); clear hK K)
          | ((with_reducible refine hK _ ?_); clear hK K; try simp only [])
          | ((first | (with_reducible show AOp _ _ _ _ _ _ _) | (with_reducible show AQOp _ _ _ _ _ _ _)); simp (disch := first | ((with_reducible show liveO _ _ _ = true); first | assumption | (exact liveO_setS (by assumption)) | (exact PtL.live (by assumption)) | (exact PtL.liveA (by assumption) _) | (simp only [go_sem]; done)) | omega | assumption | rfl | (simp only [go_sem]; first | done | omega)) only [go_sem, reduceIte, reduceCtorEq, Nat.reduceAdd, Nat.reduceMul, Nat.reduceSub, Nat.reduceLeDiff, Nat.lt_irrefl, Nat.reduceLT, Nat.reduceEqDiff, Nat.reduceBEq, Int.reduceLE, Int.reduceLT, Int.reduceToNat, w64, eq_self, h.lenm, hlt])
          | (with_reducible refine AW_seq (fun K hK => ?_))
          | (with_reducible refine AW_region tyOk ?_)
          | ((with_reducible refine AW_quiet (id := 6) tyOk ?_ ?_ ?_); (kernel_rfl); (kernel_rfl))
          | (with_reducible refine AOps_cons (fun K hK => ?_))
          | (with_reducible refine AQOps_cons (fun K hK => ?_))
          | ((with_reducible refine AQOps_nil ?_); try simp only [thenA, blockA, if_true, if_false, reduceIte, Nat.reduceEqDiff, reduceCtorEq])
          | ((with_reducible refine AOps_nil ?_); try simp only [thenA, blockA, if_true, if_false, reduceIte, Nat.reduceEqDiff, reduceCtorEq])
          | (with_reducible refine AW_block ?_)
          | ((first | (with_reducible refine AW_ret ?_) | (with_reducible refine AW_skip ?_) | (with_reducible refine AW_exit ?_)); try simp only [thenA, blockA, if_true, if_false, reduceIte, Nat.reduceEqDiff, reduceCtorEq])
          | ((with_reducible show AW _ _ (.cond _ _ _) _ _ _); refine AW_cond rfl (fun hg => ?_) (fun hg => ?_) <;> first | (exfalso; simp only [reduceCtorEq] at hg; done) | ((try simp only [Bool.not_eq_true', Bool.not_eq_false', decide_eq_true_eq, decide_eq_false_iff_not] at hg); try (exfalso; omega)))
          | ((with_reducible show _ ∧ _); refine And.intro (fun hg => ?_) (fun hg => ?_) <;> (try simp only [Bool.not_eq_true', Bool.not_eq_false'] at hg) <;> simp only [hg] <;> (try simp only [decide_eq_true_eq, decide_eq_false_iff_not] at hg) <;> (try (exfalso; omega)))
          | (clear hK K)
          | fail)
        all_goals (first | refine EndA_cut hcl (by first | exact Or.inr rfl | exact Or.inl rfl) (by simp only [Try.results106, resA, aresL, go_sem, reduceIte, reduceCtorEq, Nat.reduceAdd, Nat.reduceMul, Nat.reduceSub, Nat.reduceLeDiff, Nat.lt_irrefl, Nat.reduceLT, Nat.reduceEqDiff, Nat.reduceBEq, Int.reduceLE, Int.reduceLT, Int.reduceToNat, w64, eq_self] <;> rfl) rfl ?_ | refine EndA_same (by first | exact Or.inr rfl | exact Or.inl rfl) (by simp only [Try.results106, resA, aresL, go_sem, reduceIte, reduceCtorEq, Nat.reduceAdd, Nat.reduceMul, Nat.reduceSub, Nat.reduceLeDiff, Nat.lt_irrefl, Nat.reduceLT, Nat.reduceEqDiff, Nat.reduceBEq, Int.reduceLE, Int.reduceLT, Int.reduceToNat, w64, eq_self] <;> rfl) ?_)
        all_goals exact ⟨by rw [hO, if_neg hl0, hV], rfl⟩
/-! The rows. -/
def bcS (prev xs : List (Option Nat)) (p k : Nat) (a : Option Nat × Nat) (i : Nat) : Option Nat × Nat :=
  if i = p - 1 ∨ fLt .f32 (opC .add .f32 (ix prev i) (eK xs i k)) a.1 = true then (opC .add .f32 (ix prev i) (eK xs i k), i) else a
def bcN (prev xs : List (Option Nat)) (p k : Nat) : Nat → Option Nat × Nat
  | 0 => (some 0, 0)
  | t + 1 => bcS prev xs p k (bcN prev xs p k t) (p - 1 + t)
/-- The least sum for the first k numbers and p parts, and where the last part begins. -/
def bcAt (prev xs : List (Option Nat)) (p k : Nat) : Option Nat × Nat :=
  if k < p then (some 0, 0) else if p = 1 then (eK xs 0 k, 0) else bcN prev xs p k (k - (p - 1))
def bcRow (xs : List (Option Nat)) : Nat → List (Option Nat)
  | 0 => List.replicate (xs.length + 1) (some 0)
  | p + 1 => (List.range (xs.length + 1)).map fun k => (bcAt (bcRow xs p) xs (p + 1) k).1
def bcFrom (xs : List (Option Nat)) (p : Nat) : List Int := match p with
  | 0 => List.replicate (xs.length + 1) 0
  | p + 1 => (List.range (xs.length + 1)).map fun k => (((bcAt (bcRow xs p) xs (p + 1) k).2 : Nat) : Int)
theorem bcRow_len (xs : List (Option Nat)) (p : Nat) : (bcRow xs p).length = xs.length + 1 := by cases p <;> simp [bcRow]
theorem bcFrom_len (xs : List (Option Nat)) (p : Nat) : (bcFrom xs p).length = xs.length + 1 := by cases p <;> simp [bcFrom]
theorem bcN_le (prev xs : List (Option Nat)) (p k : Nat) : ∀ t, (bcN prev xs p k t).2 ≤ p - 1 + t
  | 0 => Nat.zero_le _
  | t + 1 => by
    have := bcN_le prev xs p k t
    simp only [bcN, bcS]
    split
    · show p - 1 + t ≤ _; omega
    · omega
theorem bcAt_le (prev xs : List (Option Nat)) (p k : Nat) : (bcAt prev xs p k).2 ≤ k := by
  unfold bcAt
  split
  · exact Nat.zero_le _
  · split
    · exact Nat.zero_le _
    · have := bcN_le prev xs p k (k - (p - 1)); omega
/-- Where the parts are cut: c 0 is the end. -/
def bcC (xs : List (Option Nat)) (parts : Nat) : Nat → Nat
  | 0 => xs.length
  | t + 1 => (ix (bcFrom xs (parts - t)) (bcC xs parts t)).toNat
theorem bcFrom_ix {xs : List (Option Nat)} {p k : Nat} (h : k ≤ xs.length) : ∃ m : Nat, ix (bcFrom xs p) k = (m : Int) ∧ m ≤ k := by
  cases p with
  | zero => exact ⟨0, by rw [ix_eq _ _ (by simp [bcFrom]; omega)]; simp [bcFrom], Nat.zero_le _⟩
  | succ p => exact ⟨_, by rw [ix_eq _ _ (by simp [bcFrom]; omega)]; simp only [bcFrom, List.getElem_map, List.getElem_range]; rfl, bcAt_le _ _ _ _⟩
theorem bcC_le (xs : List (Option Nat)) (parts : Nat) : ∀ t, bcC xs parts t ≤ xs.length
  | 0 => Nat.le_refl _
  | t + 1 => by
    have h := bcC_le xs parts t
    obtain ⟨m, h1, h2⟩ := bcFrom_ix (p := parts - t) h
    simp only [bcC, h1, Int.toNat_natCast]; omega
theorem bcC_succ (xs : List (Option Nat)) (parts t : Nat) : ix (bcFrom xs (parts - t)) (bcC xs parts t) = ((bcC xs parts (t + 1) : Nat) : Int) := by
  obtain ⟨m, h1, h2⟩ := bcFrom_ix (p := parts - t) (bcC_le xs parts t)
  simp only [bcC, h1, Int.toNat_natCast]
/-- The cuts, after t of them are told. -/
def bcOut (xs : List (Option Nat)) (parts t : Nat) : List Int := (List.range (parts - 1)).map fun q => if parts - 1 - t ≤ q then ((bcC xs parts (parts - 1 - q) : Nat) : Int) else 0
theorem bcOut_len (xs : List (Option Nat)) (parts t : Nat) : (bcOut xs parts t).length = parts - 1 := by simp [bcOut]
theorem bcOut_set {xs : List (Option Nat)} {parts t : Nat} (h : t + 1 < parts) : (bcOut xs parts t).set (parts - 2 - t) ((bcC xs parts (t + 1) : Nat) : Int) = bcOut xs parts (t + 1) := by
  apply List.ext_getElem?; intro i
  rw [List.getElem?_set, bcOut_len]
  by_cases hi : i < parts - 1
  · unfold bcOut
    simp only [List.getElem?_map, List.getElem?_range hi, Option.map_some]
    by_cases e : parts - 2 - t = i
    · subst e
      rw [if_pos rfl, if_pos hi, if_pos (by omega), show parts - 1 - (parts - 2 - t) = t + 1 by omega]
    · rw [if_neg e]
      by_cases h1 : parts - 1 - t ≤ i
      · rw [if_pos h1, if_pos (by omega)]
      · rw [if_neg h1, if_neg (by omega)]
  · rw [if_neg (by omega), List.getElem?_eq_none (by rw [bcOut_len]; omega), List.getElem?_eq_none (by rw [bcOut_len]; omega)]
theorem bcOut_zero (xs : List (Option Nat)) (parts : Nat) : bcOut xs parts 0 = List.replicate (parts - 1) 0 := by
  apply List.ext_getElem?; intro i
  by_cases hi : i < parts - 1
  · unfold bcOut
    simp only [List.getElem?_map, List.getElem?_range hi, Option.map_some]
    rw [if_neg (by omega), List.getElem?_replicate, if_pos hi]
  · rw [List.getElem?_eq_none (by rw [bcOut_len]; omega), List.getElem?_eq_none (by simp; omega)]
def bcOk (xs : List (Option Nat)) (parts : Int) : Bool := partsB xs parts && decide (xs.length ≤ 64) && finO (ix (bcRow xs parts.toNat) xs.length)
def bcL (xs : List (Option Nat)) (parts : Int) : List Int := if bcOk xs parts then bcOut xs parts.toNat (parts.toNat - 1) else []
def bcM (xs : List (Option Nat)) (parts : Int) : Option Nat := if bcOk xs parts then ix (bcRow xs parts.toNat) xs.length else some 0
end Go.Proofs.Ytkkcfbpgcekmjaa
