/- Levels, plainly: what putting and settling keep. -/
import Derived.Test.YteejnmgjjefbiaaZy
namespace Go.Proofs.Yteejnmgjjefbiaa
open Go.RowKit
set_option linter.unusedSimpArgs false
set_option linter.unusedVariables false

/-- For how many numbers rows stand. -/
def wtA : List (List Nat) → Nat
  | [] => 0
  | a :: l => a.length + 2 * wtA l
theorem wtA_app (a b : List (List Nat)) : wtA (a ++ b) = wtA a + 2 ^ a.length * wtA b := by
  induction a with
  | nil => simp [wtA]
  | cons x a ih => rw [List.cons_append, wtA, ih, wtA, List.length_cons, Nat.pow_succ, Nat.mul_add, Nat.add_assoc, Nat.mul_comm (2 ^ a.length) 2, Nat.mul_assoc]
theorem wtA_set {ls : List (List Nat)} {k : Nat} (h : k < ls.length) (x : List Nat) : wtA (ls.set k x) + 2 ^ k * (ix ls k).length = wtA ls + 2 ^ k * x.length := by
  induction ls generalizing k with
  | nil => exact absurd h (Nat.not_lt_zero _)
  | cons a ls ih =>
    cases k with
    | zero => show x.length + 2 * wtA ls + 2 ^ 0 * a.length = a.length + 2 * wtA ls + 2 ^ 0 * x.length; omega
    | succ k =>
      have h1 := ih (k := k) (by simpa using h)
      show a.length + 2 * wtA (ls.set k x) + 2 ^ (k + 1) * (ix ls k).length = a.length + 2 * wtA ls + 2 ^ (k + 1) * x.length
      rw [Nat.pow_succ, Nat.mul_comm (2 ^ k) 2, Nat.mul_assoc, Nat.mul_assoc]; omega
theorem wtA_grw (h : Nat) (ls : List (List Nat)) : wtA (grw h ls) = wtA ls := by
  unfold grw; split
  · rw [wtA_app]; simp [wtA]
  · rfl
theorem wtA_stp {q h : Nat} {ls : List (List Nat)} (s : Int) (hh : h < ls.length) (hq : 2 * q ≤ (ix ls h).length) : wtA (stp q h ls s) = wtA ls := by
  have e := grw_len h ls
  have hg : h + 1 < (grw h ls).length := by rw [e]; split <;> omega
  have e1 := wtA_set (ls := grw h ls) (k := h) (by omega) ((ix ls h).drop (2 * q))
  have e2 := wtA_set (ls := (grw h ls).set h ((ix ls h).drop (2 * q))) (k := h + 1) (by rw [List.length_set]; exact hg) (ix (grw h ls) (h + 1) ++ pik (srt kW ((ix ls h).take (2 * q))) (s.tmod 2).toNat q)
  rw [ix_setA hg, if_neg (by omega), List.length_append, pik_len] at e2
  rw [grw_ix hh, wtA_grw, List.length_drop] at e1
  have e3 : 2 ^ h * ((ix ls h).length - 2 * q) + 2 ^ (h + 1) * q = 2 ^ h * (ix ls h).length := by
    rw [Nat.pow_succ, Nat.mul_assoc, ← Nat.mul_add]; congr 1; omega
  rw [Nat.mul_add] at e2
  unfold stp
  omega
/-- The last of several rows is not empty. -/
def lnL (ls : List (List Nat)) : Prop := 1 ≤ ls.length ∧ (2 ≤ ls.length → 1 ≤ (ix ls (ls.length - 1)).length)
theorem lnL_wt {ls : List (List Nat)} (h : lnL ls) : ls.length = 1 ∨ 2 ^ (ls.length - 1) ≤ wtA ls := by
  obtain ⟨h1, h2⟩ := h
  rcases Nat.lt_or_ge 1 ls.length with h3 | h3
  · refine Or.inr ?_
    have h4 := h2 h3
    have e := wtA_set (ls := ls) (k := ls.length - 1) (by omega) []
    simp only [List.length_nil, Nat.mul_zero, Nat.add_zero] at e
    have := Nat.mul_le_mul_left (2 ^ (ls.length - 1)) h4
    omega
  · exact Or.inl (by omega)
theorem lnL_len {ls : List (List Nat)} (h : lnL ls) (hw : wtA ls ≤ 4096) : ls.length ≤ 13 := by
  rcases lnL_wt h with h1 | h1
  · omega
  · rcases Nat.lt_or_ge 13 ls.length with h2 | h2
    · have : 2 ^ 13 ≤ 2 ^ (ls.length - 1) := Nat.pow_le_pow_right (by omega) (by omega)
      have : 2 ^ 13 = 8192 := rfl
      omega
    · exact h2
theorem lnL_stp {q h : Nat} {ls : List (List Nat)} (s : Int) (hq1 : 1 ≤ q) (hh : h < ls.length) (hl : lnL ls) : lnL (stp q h ls s) := by
  have e := grw_len h ls
  have hg : h + 1 < (grw h ls).length := by rw [e]; split <;> omega
  have el := stp_len q h ls s
  obtain ⟨h1, h2⟩ := hl
  refine ⟨by rw [el]; split <;> omega, fun h3 => ?_⟩
  have hlt : (stp q h ls s).length - 1 < (stp q h ls s).length := by omega
  unfold stp at hlt h3 ⊢
  rw [List.length_set] at hlt h3 ⊢
  rw [List.length_set] at hlt h3 ⊢
  rw [ix_setA (by rw [List.length_set]; omega)]
  split
  · rw [List.length_append, pik_len]; omega
  · rename_i hne
    rw [ix_setA (by omega), if_neg (by omega)]
    have hng : ¬ h + 1 = ls.length := fun e2 => by rw [e, if_pos e2] at hne; omega
    rw [e, if_neg hng]
    rw [e, if_neg hng] at h3
    rw [grw_ix (by omega)]
    exact h2 h3
/-- All numbers of the rows are among those of ws. -/
def mmL (ws : List Nat) (ls : List (List Nat)) : Prop := ∀ row ∈ ls, ∀ w ∈ row, w ∈ ws
theorem mmL_set {ws : List Nat} {ls : List (List Nat)} (h : mmL ws ls) (k : Nat) (x : List Nat) (hx : ∀ w ∈ x, w ∈ ws) : mmL ws (ls.set k x) := fun row hr w hw => by
  rcases List.mem_or_eq_of_mem_set hr with h1 | h1
  · exact h row h1 w hw
  · subst h1; exact hx w hw
theorem mmL_ix {ws : List Nat} {ls : List (List Nat)} (h : mmL ws ls) {k : Nat} (hk : k < ls.length) : ∀ w ∈ ix ls k, w ∈ ws := h _ (ix_mem ls k hk)
theorem mmL_grw {ws : List Nat} {ls : List (List Nat)} (h : mmL ws ls) (k : Nat) : mmL ws (grw k ls) := fun row hr w hw => by
  unfold grw at hr
  split at hr
  · rcases List.mem_append.1 hr with h1 | h1
    · exact h row h1 w hw
    · rw [List.mem_singleton] at h1; subst h1; cases hw
  · exact h row hr w hw
theorem pik_mem {ws : List Nat} {s : Nat} : ∀ {t : Nat}, s + 2 * t ≤ ws.length + 1 → ∀ w ∈ pik ws s t, w ∈ ws
  | 0, _, w, hw => by cases hw
  | t + 1, h, w, hw => by
    rw [pik] at hw
    rcases List.mem_append.1 hw with h1 | h1
    · exact pik_mem (by omega) w h1
    · rw [List.mem_singleton] at h1; subst h1; exact ix_mem ws _ (by omega)
theorem mmL_stp {ws : List Nat} {q h : Nat} {ls : List (List Nat)} (s : Int) (hs : 0 ≤ s) (hh : h < ls.length) (hq : 2 * q ≤ (ix ls h).length) (hm : mmL ws ls) : mmL ws (stp q h ls s) := by
  have e := grw_len h ls
  have hg : h + 1 < (grw h ls).length := by rw [e]; split <;> omega
  have hr := mmL_ix hm hh
  unfold stp
  refine mmL_set (mmL_set (mmL_grw hm h) _ _ fun w hw => hr w (List.mem_of_mem_drop hw)) _ _ fun w hw => ?_
  rcases List.mem_append.1 hw with h1 | h1
  · exact mmL_ix (mmL_grw hm h) hg w h1
  · have h2 := Int.tmod_nonneg (a := s) 2 hs
    have h3 := Int.tmod_lt_of_pos s (b := 2) (by omega)
    have h4 := pik_mem (ws := srt kW ((ix ls h).take (2 * q))) (by rw [srt_len, List.length_take]; omega) w h1
    exact hr w (List.mem_of_mem_take (mem_srt.1 h4))
/-- What settling leaves. -/
theorem stl_all {ws : List Nat} {q : Nat} (hq1 : 1 ≤ q) : ∀ (n h : Nat) (ls : List (List Nat)) (s : Int), 2 * totW ls + (ls.length - h) ≤ n → h ≤ ls.length → (∀ j, j < h → (ix ls j).length < 2 * q) → mmL ws ls → lnL ls → (0 ≤ s ∧ s ≤ 4294967295) →
    (∀ j, j < (stl q n h ls s).1.length → (ix (stl q n h ls s).1 j).length < 2 * q) ∧ wtA (stl q n h ls s).1 = wtA ls ∧ mmL ws (stl q n h ls s).1 ∧ lnL (stl q n h ls s).1 ∧ (0 ≤ (stl q n h ls s).2 ∧ (stl q n h ls s).2 ≤ 4294967295)
  | 0, h, ls, s, hn, hh, hj, hm, hl, hs => by
    refine ⟨fun j hj' => hj j ?_, rfl, hm, hl, hs⟩
    have : (stl q 0 h ls s).1.length = ls.length := rfl
    omega
  | n + 1, h, ls, s, hn, hh, hj, hm, hl, hs => by
    rw [stl_succ]
    split
    · rename_i h1
      split
      · rename_i h2
        have e1 := stp_tot s h1 h2
        have e2 := stp_len q h ls s
        have := stl_all hq1 n h (stp q h ls s) (sdN s) (by rw [e2]; split <;> omega) (by rw [e2]; split <;> omega) (fun j hj' => ?_) (mmL_stp s hs.1 h1 h2 hm) (lnL_stp s hq1 h1 hl) (sdN_in hs)
        · rw [wtA_stp s h1 h2] at this; exact this
        · have e := grw_len h ls
          unfold stp
          rw [ix_setA (by rw [List.length_set, e]; split <;> omega), if_neg (by omega), ix_setA (by rw [e]; split <;> omega), if_neg (by omega), grw_ix (by omega)]
          exact hj j hj'
      · rename_i h2
        refine stl_all hq1 n (h + 1) ls s (by omega) (by omega) (fun j hj' => ?_) hm hl hs
        rcases Nat.lt_or_ge j h with h3 | h3
        · exact hj j h3
        · obtain rfl : j = h := by omega
          omega
    · rename_i h1
      exact ⟨fun j hj' => hj j (by simp only at hj'; omega), rfl, hm, hl, hs⟩
/-- Rows put behind themselves. -/
def dblL (ls : List (List Nat)) : List (List Nat) := ls.map fun r => r ++ r
theorem mgS_self (ls : List (List Nat)) : ∀ k, k ≤ ls.length → mgS ls ls k = dblL (ls.take k) ++ ls.drop k
  | 0, _ => rfl
  | k + 1, hk => by
    have h1 := mgS_self ls k (by omega)
    have h2 := mgS_len' ls ls k
    have hg : mgG (mgS ls ls k) k = mgS ls ls k := by unfold mgG; rw [if_neg (by omega)]
    have hx : ix (mgS ls ls k) k = ix ls k := by
      rw [h1, ix_eq _ _ (by rw [← h1]; omega), List.getElem_append_right (by unfold dblL; simp; omega), ix_eq _ _ (by omega)]
      simp only [dblL, List.length_map, List.length_take, List.getElem_drop]
      congr 1; omega
    rw [mgS, hg, hx, h1, List.set_append_right _ _ (by unfold dblL; simp; omega)]
    have e1 : (dblL (ls.take k)).length = k := by unfold dblL; rw [List.length_map, List.length_take]; omega
    rw [e1, Nat.sub_self, drop_ix ls k (by omega), List.set_cons_zero]
    have e2 : dblL (ls.take (k + 1)) = dblL (ls.take k) ++ [ix ls k ++ ix ls k] := by unfold dblL; rw [take_ix _ _ (show k < ls.length by omega), List.map_append]; rfl
    rw [e2, List.append_assoc]; rfl
theorem mgS_dbl (ls : List (List Nat)) : mgS ls ls ls.length = dblL ls := by
  rw [mgS_self ls _ (Nat.le_refl _), List.take_length, List.drop_length, List.append_nil]
theorem dblL_len (ls : List (List Nat)) : (dblL ls).length = ls.length := List.length_map ..
theorem dblL_wt (ls : List (List Nat)) : wtA (dblL ls) = 2 * wtA ls := by
  induction ls with
  | nil => rfl
  | cons a l ih => show (a ++ a).length + 2 * wtA (dblL l) = 2 * (a.length + 2 * wtA l); rw [ih, List.length_append]; omega
theorem dblL_mm {ws : List Nat} {ls : List (List Nat)} (h : mmL ws ls) : mmL ws (dblL ls) := fun row hr w hw => by
  obtain ⟨r, h1, rfl⟩ := List.mem_map.1 hr
  rcases List.mem_append.1 hw with h2 | h2 <;> exact h r h1 w h2
theorem dblL_ln {ls : List (List Nat)} (h : lnL ls) : lnL (dblL ls) := by
  obtain ⟨h1, h2⟩ := h
  refine ⟨by rw [dblL_len]; exact h1, fun h3 => ?_⟩
  rw [dblL_len] at h3 ⊢
  have := h2 h3
  unfold dblL
  rw [ix_mapA _ (by omega), List.length_append]; omega
end Go.Proofs.Yteejnmgjjefbiaa
