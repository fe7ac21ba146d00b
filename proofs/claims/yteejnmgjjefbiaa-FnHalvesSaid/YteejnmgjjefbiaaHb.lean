/- Levels, plainly: valid ones, counts, ranks and quantiles of what was put. -/
import Derived.Test.YteejnmgjjefbiaaHa
import Derived.Test.YteejnmgjjefbiaaGw
import Derived.Test.YteejnmgjjefbiaaBz
namespace Go.Proofs.Yteejnmgjjefbiaa
open Go.RowKit
set_option linter.unusedSimpArgs false
set_option linter.unusedVariables false

def oW (ls : List (List Nat)) : List (List (Option Nat)) := ls.map fun ws => ws.map some
theorem oW_len (ls : List (List Nat)) : (oW ls).length = ls.length := List.length_map ..
theorem oW_ix (ls : List (List Nat)) {k : Nat} (h : k < ls.length) : ix (oW ls) k = (ix ls k).map some := ix_mapA _ h
/-- What holds of levels that numbers of ws were put to, m in all. -/
structure Iv (ws : List Nat) (q m : Nat) (X : List (List Nat)) (s : Int) : Prop where
  row : ∀ j, j < X.length → (ix X j).length < 2 * q
  wt : wtA X = m
  mm : mmL ws X
  ln : lnL X
  sd : 0 ≤ s ∧ s ≤ 4294967295
section
variable {ws : List Nat} {q m : Nat} {X : List (List Nat)} {s : Int}
theorem Iv.len (h : Iv ws q m X s) (hm : m ≤ 4096) : X.length ≤ 13 := lnL_len h.ln (by rw [h.wt]; exact hm)
theorem tmod_two (q : Nat) : ((2 * q : Nat) : Int).tmod 2 = 0 := by
  rw [Int.tmod_eq_emod_of_nonneg (by omega)]; omega
theorem Iv.lev (h : Iv ws q m X s) (hm : m ≤ 4096) (hq : 1 ≤ q ∧ q ≤ 32) (hf : ∀ w ∈ ws, finO (some w) = true) : levB (2 * q : Nat) s (oW X) = true := by
  have h1 := h.len hm
  have h2 := h.ln.1
  unfold levB
  simp only [Bool.and_eq_true, decide_eq_true_eq, List.all_eq_true, beq_iff_eq, inB, oW_len]
  refine ⟨⟨⟨⟨⟨⟨by omega, by omega⟩, tmod_two q⟩, h.sd⟩, h2⟩, by omega⟩, fun xs hx => ?_⟩
  obtain ⟨row, hr, rfl⟩ := List.mem_map.1 hx
  obtain ⟨j, hj, e⟩ := List.getElem_of_mem hr
  have h3 := h.row j hj
  rw [ix_eq _ _ hj, e] at h3
  unfold levP
  simp only [Bool.and_eq_true, decide_eq_true_eq, List.all_eq_true, List.length_map]
  refine ⟨by omega, fun x hx => ?_⟩
  obtain ⟨w, hw, rfl⟩ := List.mem_map.1 hx
  exact hf w (h.mm row hr w hw)
theorem half_two (q : Nat) : (((2 * q : Nat) : Int) / 2).toNat = q := by omega
theorem Iv.settle {Y : List (List Nat)} (hq1 : 1 ≤ q) (hw : wtA Y = m) (hm : mmL ws Y) (hl : lnL Y) (hs : 0 ≤ s ∧ s ≤ 4294967295) : Iv ws q m (plS (2 * q : Nat) s Y).1 (plS (2 * q : Nat) s Y).2 := by
  have e : plS (2 * q : Nat) s Y = stl q (plN Y) 0 Y s := by unfold plS; rw [half_two]
  rw [e]
  obtain ⟨h1, h2, h3, h4, h5⟩ := stl_all (ws := ws) hq1 (plN Y) 0 Y s (by unfold plN; omega) (Nat.zero_le _) (fun j hj => absurd hj (Nat.not_lt_zero _)) hm hl hs
  exact ⟨h1, by rw [h2, hw], h3, h4, h5⟩
theorem putL_len (X : List (List Nat)) (w : Nat) : (putL X w).length = X.length := List.length_set
theorem Iv.put (h : Iv ws q m X s) (hq1 : 1 ≤ q) {w : Nat} (hw : w ∈ ws) : Iv ws q (m + 1) (plS (2 * q : Nat) s (putL X w)).1 (plS (2 * q : Nat) s (putL X w)).2 := by
  have h0 := h.ln.1
  refine Iv.settle hq1 ?_ ?_ ⟨by rw [putL_len]; exact h0, fun h2 => ?_⟩ h.sd
  · have := wtA_set (ls := X) (k := 0) h0 (ix X 0 ++ [w])
    rw [List.length_append] at this
    simp only [Nat.pow_zero, Nat.one_mul, List.length_cons, List.length_nil] at this
    have h3 := h.wt
    unfold putL
    omega
  · refine mmL_set h.mm 0 _ fun y hy => ?_
    rcases List.mem_append.1 hy with h1 | h1
    · exact mmL_ix h.mm h0 y h1
    · rw [List.mem_singleton] at h1; subst h1; exact hw
  · rw [putL_len] at h2 ⊢
    have := h.ln.2 h2
    unfold putL
    rw [ix_setA (by omega), if_neg (by omega)]
    exact this
theorem Iv.dbl (h : Iv ws q m X s) (hq1 : 1 ≤ q) : Iv ws q (2 * m) (plS (2 * q : Nat) s (mgS X X X.length)).1 (plS (2 * q : Nat) s (mgS X X X.length)).2 := by
  rw [mgS_dbl]
  exact Iv.settle hq1 (by rw [dblL_wt, h.wt]) (dblL_mm h.mm) (dblL_ln h.ln) h.sd
end
/-- Levels behind i puts. -/
def hv (ws : List Nat) (q : Nat) (s0 : Int) : Nat → List (List Nat) × Int
  | 0 => ([[]], s0)
  | i + 1 => plS (2 * q : Nat) (hv ws q s0 i).2 (putL (hv ws q s0 i).1 (ix ws i))
theorem hv_Iv {ws : List Nat} {q : Nat} {s0 : Int} (hq1 : 1 ≤ q) (hs : 0 ≤ s0 ∧ s0 ≤ 4294967295) : ∀ i, i ≤ ws.length → Iv ws q i (hv ws q s0 i).1 (hv ws q s0 i).2
  | 0, _ => by
    refine ⟨fun j hj => ?_, rfl, fun row hr w hw => ?_, ⟨Nat.le_refl _, fun h => ?_⟩, hs⟩
    · have : j = 0 := by simp only [hv, List.length_cons, List.length_nil] at hj; omega
      subst this; show 0 < 2 * q; omega
    · have : row = [] := by simpa [hv] using hr
      subst this; cases hw
    · simp [hv] at h
  | i + 1, h => (hv_Iv hq1 hs i (by omega)).put hq1 (ix_mem ws i (by omega))
theorem take_wt (ls : List (List Nat)) {k : Nat} (h : k < ls.length) : wtA (ls.take (k + 1)) = wtA (ls.take k) + (ix ls k).length * 2 ^ k := by
  rw [take_ix _ _ h, wtA_app, List.length_take, Nat.min_eq_left (by omega), wtA, wtA]
  simp [Nat.mul_comm]
theorem stS_wt (ls : List (List Nat)) : ∀ k, k ≤ ls.length → stS (fun _ => true) (oW ls) k = wtA (ls.take k)
  | 0, _ => rfl
  | k + 1, h => by
    rw [stS, stS_wt ls k (by omega), take_wt ls (by omega), oW_ix ls (by omega)]
    simp
theorem stS_cnt (ls : List (List Nat)) : stS (fun _ => true) (oW ls) (oW ls).length = wtA ls := by
  rw [oW_len, stS_wt ls _ (Nat.le_refl _), List.take_length]
theorem stS_mono {p p' : Option Nat → Bool} (xss : List (List (Option Nat))) (h : ∀ xs ∈ xss, ∀ x ∈ xs, p x = true → p' x = true) : ∀ k, k ≤ xss.length → stS p xss k ≤ stS p' xss k
  | 0, _ => Nat.le_refl _
  | k + 1, hk => by
    have h1 := stS_mono xss h k (by omega)
    have h2 : (ix xss k).countP p ≤ (ix xss k).countP p' := List.countP_mono_left fun x hx hp => h _ (ix_mem xss k (by omega)) x hx hp
    have := Nat.mul_le_mul_right (2 ^ k) h2
    rw [stS, stS]; omega
/-! Quantiles. -/
def smP (l : List (Nat × Int)) : Int := (l.map Prod.snd).sum
theorem smP_app (a b : List (Nat × Int)) : smP (a ++ b) = smP a + smP b := by unfold smP; rw [List.map_append, List.sum_append]
theorem smP_row (c : Int) (ws : List Nat) : smP (ws.map fun w => (w, c)) = (ws.length : Int) * c := by
  induction ws with
  | nil => simp [smP]
  | cons w ws ih =>
    have : smP ((w :: ws).map fun w => (w, c)) = c + smP (ws.map fun w => (w, c)) := rfl
    rw [this, ih, List.length_cons]; push_cast; rw [Int.add_mul]; omega
theorem smP_lq (ls : List (List Nat)) : ∀ k, k ≤ ls.length → smP (lqL ls k) = ((wtA (ls.take k) : Nat) : Int)
  | 0, _ => rfl
  | k + 1, h => by
    rw [lqL, smP_app, smP_lq ls k (by omega), smP_row, take_wt ls (by omega)]; push_cast; rfl
theorem smP_perm {a b : List (Nat × Int)} (h : a.Perm b) : smP a = smP b := by
  induction h with
  | nil => rfl
  | cons x _ ih => show x.2 + smP _ = x.2 + smP _; rw [ih]
  | swap x y l => show y.2 + (x.2 + smP l) = x.2 + (y.2 + smP l); omega
  | trans _ _ h1 h2 => rw [h1, h2]
theorem ins_permH {α : Type} (key : α → Int) (a : α) : ∀ l : List α, (ins key a l).Perm (a :: l)
  | [] => List.Perm.refl _
  | b :: l => by
    unfold ins
    split
    · exact List.Perm.refl _
    · exact ((ins_permH key a l).cons b).trans (List.Perm.swap a b l)
theorem srt_permH {α : Type} (key : α → Int) : ∀ l : List α, (srt key l).Perm l
  | [] => List.Perm.refl _
  | a :: l => by
    unfold srt
    exact (ins_permH key a _).trans ((srt_permH key l).cons a)
theorem lqF_found {k : Int} : ∀ (l : List (Nat × Int)) (sum : Int), sum < k → k ≤ sum + smP l → ∃ w, lqF k l sum = some w ∧ ∃ c, (w, c) ∈ l
  | [], sum, h1, h2 => by simp [smP] at h2; omega
  | p :: l, sum, h1, h2 => by
    rw [lqF]
    split
    · exact ⟨p.1, rfl, p.2, List.mem_cons_self ..⟩
    · rename_i h3
      have e : smP (p :: l) = p.2 + smP l := rfl
      obtain ⟨w, hw, c, hc⟩ := lqF_found (k := k) l (sum + p.2) (by omega) (by omega)
      exact ⟨w, hw, c, List.mem_cons_of_mem _ hc⟩
theorem lqL_mem {ws : List Nat} {ls : List (List Nat)} (h : mmL ws ls) : ∀ k, k ≤ ls.length → ∀ p ∈ lqL ls k, p.1 ∈ ws
  | 0, _, p, hp => by cases hp
  | k + 1, hk, p, hp => by
    rw [lqL] at hp
    rcases List.mem_append.1 hp with h1 | h1
    · exact lqL_mem h k (by omega) p h1
    · obtain ⟨w, hw, rfl⟩ := List.mem_map.1 h1
      exact mmL_ix h (by omega) w hw
theorem Iv.quan {ws : List Nat} {q m : Nat} {X : List (List Nat)} {s : Int} (h : Iv ws q m X s) (hm : 1 ≤ m) (z : Nat) : ∃ w, lqG (oW X) (some z) = some w ∧ w ∈ ws := by
  have e1 : lqC (oW X) = (m : Int) := by unfold lqC; rw [stS_cnt, h.wt]
  have e2 : lqW (oW X) = X := lqW_map X
  unfold lqG
  rw [e1, e2, Option.getD_some]
  obtain ⟨p1, p2⟩ := placeI_in z (n := (m : Int)) (by omega)
  have e3 : smP (lqS X) = (m : Int) := by
    unfold lqS
    rw [smP_perm (srt_permH kP _), smP_lq X _ (Nat.le_refl _), List.take_length, h.wt]
  obtain ⟨w, hw, c, hc⟩ := lqF_found (k := placeI z (m : Int)) (lqS X) 0 (by omega) (by omega)
  refine ⟨w, hw, ?_⟩
  unfold lqS at hc
  exact lqL_mem h.mm _ (Nat.le_refl _) _ (mem_srt.1 hc)
end Go.Proofs.Yteejnmgjjefbiaa
