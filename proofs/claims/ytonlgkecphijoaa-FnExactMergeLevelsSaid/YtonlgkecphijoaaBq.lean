/- Ranks in lists, in the abstract machine. -/
import Derived.Test.YtonlgkecphijoaaBo
namespace Go.Proofs.Ytonlgkecphijoaa
open Go.RowKit
set_option linter.unusedSimpArgs false
set_option linter.unusedVariables false
set_option maxRecDepth 100000

theorem countP_pre {α : Type} [Inhabited α] (p : α → Bool) : ∀ (xs : List α), (∀ i, i + 1 < xs.length → p (ix xs (i + 1)) = true → p (ix xs i) = true) → ∀ i, i < xs.length → p (ix xs i) = decide (i < xs.countP p)
  | [], _, i, hi => by simp at hi
  | a :: xs, h, i, hi => by
    have e0 : ix (a :: xs) 0 = a := rfl
    have es : ∀ j, ix (a :: xs) (j + 1) = ix xs j := fun j => rfl
    have ih := countP_pre p xs fun j hj hp => by
      have := h (j + 1) (by simpa using hj) (by rw [es]; exact hp)
      rwa [es] at this
    cases ha : p a with
    | true =>
      rw [List.countP_cons_of_pos ha]
      cases i with
      | zero => rw [e0, ha]; simp
      | succ j =>
        rw [es, ih j (by simpa using hi)]
        simp
    | false =>
      rw [List.countP_cons_of_neg (by simp [ha])]
      have hz : ∀ j, j < (a :: xs).length → p (ix (a :: xs) j) = false := by
        intro j
        induction j with
        | zero => intro _; rw [e0]; exact ha
        | succ j ihj =>
          intro hj
          cases hp : p (ix (a :: xs) (j + 1)) with
          | false => rfl
          | true => have := h j hj hp; rw [ihj (by omega)] at this; cases this
      have hc : xs.countP p = 0 := by
        rw [List.countP_eq_zero]
        intro x hx
        obtain ⟨j, hj, rfl⟩ := List.getElem_of_mem hx
        have := hz (j + 1) (by simpa using hj)
        rw [es, ix_eq _ _ hj] at this
        simp [this]
      rw [hz i hi, hc]; simp
theorem asc_rank {vs : List (Option Nat)} {x : Option Nat} (h : ascFB vs = true) (hx : finO x = true) : ∀ i, i < vs.length → fLe .f32 (ix vs i) x = decide (i < vs.countP fun y => fLe .f32 y x) := by
  unfold ascFB at h
  rw [Bool.and_eq_true] at h
  have hf : ∀ j, j < vs.length → finO (ix vs j) = true := fun j hj => List.all_eq_true.1 h.1 _ (ix_mem _ _ hj)
  refine countP_pre (fun y => fLe .f32 y x) vs fun j hj hp => ?_
  have h2 := (ascB_iff ltF vs).1 h.2 j hj
  unfold ltF at h2
  rw [fLt_kO (hf _ hj) (hf _ (by omega))] at h2
  rw [fLe_kO (hf _ hj) hx] at hp
  rw [fLe_kO (hf _ (by omega)) hx]
  simp at h2 hp ⊢; omega
theorem sumI_le {xs : List Int} (hb : ∀ x ∈ xs, 0 ≤ x) : ∀ m k, k + m = xs.length → sumI (xs.take k) ≤ sumI xs
  | 0, k, h => by rw [List.take_of_length_le (by omega)]; exact Int.le_refl _
  | m + 1, k, h => by
    have h1 := sumI_le hb m (k + 1) (by omega)
    rw [sumI_take (by omega)] at h1
    have h2 := hb _ (ix_mem xs k (by omega))
    omega
theorem asliceS_0 (te : TE) (H : Hp) (x : LV) (hi mx : Option LV) : asliceS te H x none hi mx = asliceS te H x (some (.int .i64 0)) hi mx := by
  have h : ∀ b : Nat, asliceB b none 0 = asliceB b (some (.int .i64 0)) 0 := by intro b; simp [asliceB]
  unfold asliceS; cases x <;> simp only [h]
end Go.Proofs.Ytonlgkecphijoaa
