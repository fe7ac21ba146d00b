/- Lists and their ranks, plainly. -/
import Derived.Test.YtgndgmpfonmooaaEe
namespace Go.Proofs.Ytgndgmpfonmooaa
open Go.RowKit
set_option linter.unusedSimpArgs false
set_option linter.unusedVariables false
set_option maxRecDepth 100000

theorem ins_perm {α : Type} (key : α → Int) (a : α) : ∀ l : List α, (ins key a l).Perm (a :: l)
  | [] => List.Perm.refl _
  | b :: l => by
    unfold ins
    split
    · exact List.Perm.refl _
    · exact ((ins_perm key a l).cons b).trans (List.Perm.swap a b l)
theorem srt_perm {α : Type} (key : α → Int) : ∀ l : List α, (srt key l).Perm l
  | [] => List.Perm.refl _
  | a :: l => by
    unfold srt
    exact (ins_perm key a (srt key l)).trans ((srt_perm key l).cons a)
/-- How many are at most t. -/
def cntK (D : List Nat) (t : Int) : Nat := D.countP fun y => decide (kW y ≤ t)
def cntL (D : List Nat) (t : Int) : Nat := D.countP fun y => decide (kW y < t)
theorem cntK_srt (ws : List Nat) (t : Int) : cntK ws t = cntK (srt kW ws) t := ((srt_perm kW ws).countP_eq _).symm
theorem cntL_srt (ws : List Nat) (t : Int) : cntL ws t = cntL (srt kW ws) t := ((srt_perm kW ws).countP_eq _).symm
theorem cntK_asc : ∀ {D : List Nat}, Asc kW D → ∀ (t : Int) (j : Nat), j < D.length → (kW (ix D j) ≤ t ↔ j < cntK D t)
  | [], _, t, j, hj => absurd hj (Nat.not_lt_zero _)
  | a :: D, h, t, j, hj => by
    have h1 := List.pairwise_cons.1 h
    by_cases hc : kW a ≤ t
    · have e : cntK (a :: D) t = cntK D t + 1 := by unfold cntK; rw [List.countP_cons, if_pos (by simpa using hc)]
      rw [e]
      cases j with
      | zero => exact ⟨fun _ => Nat.succ_pos _, fun _ => hc⟩
      | succ j =>
        have := cntK_asc h1.2 t j (by simpa using hj)
        rw [show ix (a :: D) (j + 1) = ix D j from rfl, this]; omega
    · have hall : ∀ y ∈ a :: D, ¬ kW y ≤ t := fun y hy => by
        rcases List.mem_cons.1 hy with rfl | hy
        · exact hc
        · have := h1.1 y hy; omega
      have e : cntK (a :: D) t = 0 := by unfold cntK; rw [List.countP_eq_zero]; intro y hy; simpa using hall y hy
      rw [e]
      exact ⟨fun hh => absurd hh (hall _ (ix_mem _ j hj)), fun hh => absurd hh (Nat.not_lt_zero _)⟩
theorem cntL_asc : ∀ {D : List Nat}, Asc kW D → ∀ (t : Int) (j : Nat), j < D.length → (kW (ix D j) < t ↔ j < cntL D t)
  | [], _, t, j, hj => absurd hj (Nat.not_lt_zero _)
  | a :: D, h, t, j, hj => by
    have h1 := List.pairwise_cons.1 h
    by_cases hc : kW a < t
    · have e : cntL (a :: D) t = cntL D t + 1 := by unfold cntL; rw [List.countP_cons, if_pos (by simpa using hc)]
      rw [e]
      cases j with
      | zero => exact ⟨fun _ => Nat.succ_pos _, fun _ => hc⟩
      | succ j =>
        have := cntL_asc h1.2 t j (by simpa using hj)
        rw [show ix (a :: D) (j + 1) = ix D j from rfl, this]; omega
    · have hall : ∀ y ∈ a :: D, ¬ kW y < t := fun y hy => by
        rcases List.mem_cons.1 hy with rfl | hy
        · exact hc
        · have := h1.1 y hy; omega
      have e : cntL (a :: D) t = 0 := by unfold cntL; rw [List.countP_eq_zero]; intro y hy; simpa using hall y hy
      rw [e]
      exact ⟨fun hh => absurd hh (hall _ (ix_mem _ j hj)), fun hh => absurd hh (Nat.not_lt_zero _)⟩
theorem cntK_le (D : List Nat) (t : Int) : cntK D t ≤ D.length := List.countP_le_length
theorem cntL_le (D : List Nat) (t : Int) : cntL D t ≤ D.length := List.countP_le_length
theorem kW_le (a b : Nat) : fLe .f32 (some a) (some b) = decide (kW a ≤ kW b) := by
  unfold fLe ordC kW
  simp only [Option.bind_some]
  rcases Int.lt_trichotomy (key FloatKind.f32.format a) (key FloatKind.f32.format b) with h | h | h
  · rw [Int.compare_eq_lt.2 h, decide_eq_true (by omega)]; rfl
  · rw [Int.compare_eq_eq.2 h, decide_eq_true (by omega)]; rfl
  · rw [Int.compare_eq_gt.2 h, decide_eq_false (by omega)]; rfl
theorem kW_eq (a b : Nat) : fEq .f32 (some a) (some b) = decide (kW a = kW b) := by
  unfold fEq ordC kW
  simp only [Option.bind_some]
  rcases Int.lt_trichotomy (key FloatKind.f32.format a) (key FloatKind.f32.format b) with h | h | h
  · rw [Int.compare_eq_lt.2 h, decide_eq_false (by omega)]; rfl
  · rw [Int.compare_eq_eq.2 h, decide_eq_true (by omega)]; rfl
  · rw [Int.compare_eq_gt.2 h, decide_eq_false (by omega)]; rfl
theorem rank_cnt (ws : List Nat) (x : Nat) : ((ws.map some).countP fun y => fLe .f32 y (some x)) = cntK (srt kW ws) (kW x) := by
  rw [← cntK_srt, List.countP_map]
  unfold cntK
  congr 1
  funext y
  exact kW_le y x
/-- The rank of a sorted number is one more than the last place of those that are equal. -/
theorem rank_last {D : List Nat} (h : Asc kW D) {i l : Nat} (hi : i ≤ l) (hl : l < D.length) (hll : kW (ix D l) = kW (ix D i)) (hn : l + 1 < D.length → kW (ix D (l + 1)) ≠ kW (ix D i)) : cntK D (kW (ix D i)) = l + 1 := by
  have h1 := (cntK_asc h (kW (ix D i)) l hl).1 (by omega)
  have h2 := cntK_le D (kW (ix D i))
  rcases Nat.lt_or_ge (l + 1) D.length with h3 | h3
  · have h4 := cntK_asc h (kW (ix D i)) (l + 1) h3
    have h5 := asc_ix h (show i ≤ l + 1 by omega) h3
    have h6 := hn h3
    have : ¬ kW (ix D (l + 1)) ≤ kW (ix D i) := by omega
    rw [h4] at this
    omega
  · omega
end Go.Proofs.Ytgndgmpfonmooaa
