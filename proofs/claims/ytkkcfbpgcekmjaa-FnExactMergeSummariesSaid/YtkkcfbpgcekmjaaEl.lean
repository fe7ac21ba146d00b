/- Two summaries merged: what comes out, plainly. -/
import Derived.Test.YtkkcfbpgcekmjaaEk
namespace Go.Proofs.Ytkkcfbpgcekmjaa
open Go.RowKit
set_option linter.unusedSimpArgs false
set_option linter.unusedVariables false

def mgA (vs vs2 : List (Option Nat)) (i k : Nat) : Bool := decide (k = vs2.length) || (decide (i < vs.length) && fLe .f32 (ix vs i) (ix vs2 k))
def mgS (vs : List (Option Nat)) (gs ss : List Int) (vs2 : List (Option Nat)) (gs2 ss2 : List Int) (s : Nat × Nat × List Tp) : Nat × Nat × List Tp :=
  if mgA vs vs2 s.1 s.2.1 then (s.1 + 1, s.2.1, s.2.2 ++ [((ix vs s.1, ix gs s.1, ix ss s.1 + exI gs2 ss2 s.2.1) : Tp)])
  else (s.1, s.2.1 + 1, s.2.2 ++ [((ix vs2 s.2.1, ix gs2 s.2.1, ix ss2 s.2.1 + exI gs ss s.1) : Tp)])
def mgN (vs : List (Option Nat)) (gs ss : List Int) (vs2 : List (Option Nat)) (gs2 ss2 : List Int) : Nat → Nat × Nat × List Tp
  | 0 => (0, 0, [])
  | t + 1 => mgS vs gs ss vs2 gs2 ss2 (mgN vs gs ss vs2 gs2 ss2 t)
theorem exI_bound {gs ss : List Int} {c : Int} (l : ss.length = gs.length) (hg : ∀ x ∈ gs, 1 ≤ x ∧ x ≤ 1000000) (hs : ∀ x ∈ ss, 0 ≤ x ∧ x ≤ c) (hc : c ≤ 1000000) (k : Nat) : 0 ≤ exI gs ss k ∧ exI gs ss k ≤ 1999999 := by
  unfold exI
  split
  · rename_i h
    have a := hg _ (ix_mem gs k h)
    have b := hs _ (ix_mem ss k (by omega))
    omega
  · omega
theorem sumI_snoc (xs : List Int) (x : Int) : sumI (xs ++ [x]) = sumI xs + x := by unfold sumI; rw [List.foldl_append]; rfl
theorem mgN_ok {vs vs2 : List (Option Nat)} {gs ss gs2 ss2 : List Int} {c c2 : Int} (l1 : gs.length = vs.length) (l2 : ss.length = vs.length) (l3 : gs2.length = vs2.length) (l4 : ss2.length = vs2.length)
    (hg : ∀ x ∈ gs, 1 ≤ x ∧ x ≤ 1000000) (hs : ∀ x ∈ ss, 0 ≤ x ∧ x ≤ c) (hc : c ≤ 1000000) (hg2 : ∀ x ∈ gs2, 1 ≤ x ∧ x ≤ 1000000) (hs2 : ∀ x ∈ ss2, 0 ≤ x ∧ x ≤ c2) (hc2 : c2 ≤ 1000000) :
    ∀ t, t ≤ vs.length + vs2.length → ∀ i k X, mgN vs gs ss vs2 gs2 ss2 t = (i, k, X) → i + k = t ∧ i ≤ vs.length ∧ k ≤ vs2.length ∧ X.length = t ∧ (∀ u ∈ X, 0 ≤ tg u) ∧ (∀ u ∈ X, 0 ≤ ts u ∧ ts u ≤ 3000000) ∧ sumI (X.map tg) = sumI (gs.take i) + sumI (gs2.take k)
  | 0, _, i, k, X, h => by
    simp only [mgN, Prod.mk.injEq] at h
    obtain ⟨rfl, rfl, rfl⟩ := h
    exact ⟨rfl, Nat.zero_le _, Nat.zero_le _, rfl, fun u hu => absurd hu (by simp), fun u hu => absurd hu (by simp), rfl⟩
  | t + 1, ht, i, k, X, h => by
    obtain ⟨⟨i0, k0, X0⟩, hp⟩ : ∃ p, mgN vs gs ss vs2 gs2 ss2 t = p := ⟨_, rfl⟩
    obtain ⟨e1, e2, e3, e4, e5, e6, e7⟩ := mgN_ok l1 l2 l3 l4 hg hs hc hg2 hs2 hc2 t (by omega) i0 k0 X0 hp
    have x1 := exI_bound (l2.trans l1.symm) hg hs hc i0
    have x2 := exI_bound (l4.trans l3.symm) hg2 hs2 hc2 k0
    simp only [mgN, hp, mgS] at h
    cases hA : mgA vs vs2 i0 k0
    · rw [hA] at h
      simp only [Bool.false_eq_true, if_false, Prod.mk.injEq] at h
      obtain ⟨rfl, rfl, rfl⟩ := h
      unfold mgA at hA
      simp only [Bool.or_eq_false_iff, decide_eq_false_iff_not] at hA
      have hk : k0 < vs2.length := by omega
      have a := hg2 _ (ix_mem gs2 k0 (by omega))
      have b := hs2 _ (ix_mem ss2 k0 (by omega))
      refine ⟨by omega, e2, by omega, by simp [e4], ?_, ?_, ?_⟩
      · intro u hu
        rcases List.mem_append.1 hu with hu | hu
        · exact e5 u hu
        · simp only [List.mem_singleton] at hu; subst hu; simp only [tg]; omega
      · intro u hu
        rcases List.mem_append.1 hu with hu | hu
        · exact e6 u hu
        · simp only [List.mem_singleton] at hu; subst hu; simp only [ts]; omega
      · rw [List.map_append, List.map_cons, List.map_nil, sumI_snoc, e7, sumI_take (by omega)]; simp only [tg]; omega
    · rw [hA] at h
      simp only [if_true, Prod.mk.injEq] at h
      obtain ⟨rfl, rfl, rfl⟩ := h
      have hi : i0 < vs.length := by
        unfold mgA at hA
        simp only [Bool.or_eq_true, Bool.and_eq_true, decide_eq_true_eq] at hA
        rcases hA with hA | hA
        · omega
        · exact hA.1
      have a := hg _ (ix_mem gs i0 (by omega))
      have b := hs _ (ix_mem ss i0 (by omega))
      refine ⟨by omega, by omega, e3, by simp [e4], ?_, ?_, ?_⟩
      · intro u hu
        rcases List.mem_append.1 hu with hu | hu
        · exact e5 u hu
        · simp only [List.mem_singleton] at hu; subst hu; simp only [tg]; omega
      · intro u hu
        rcases List.mem_append.1 hu with hu | hu
        · exact e6 u hu
        · simp only [List.mem_singleton] at hu; subst hu; simp only [ts]; omega
      · rw [List.map_append, List.map_cons, List.map_nil, sumI_snoc, e7, sumI_take (by omega)]; simp only [tg]; omega
def mgX (vs : List (Option Nat)) (gs ss : List Int) (vs2 : List (Option Nat)) (gs2 ss2 : List Int) : List Tp := (mgN vs gs ss vs2 gs2 ss2 (vs.length + vs2.length)).2.2
theorem mgX_ok {vs vs2 : List (Option Nat)} {gs ss gs2 ss2 : List Int} {c c2 : Int} (l1 : gs.length = vs.length) (l2 : ss.length = vs.length) (l3 : gs2.length = vs2.length) (l4 : ss2.length = vs2.length)
    (hg : ∀ x ∈ gs, 1 ≤ x ∧ x ≤ 1000000) (hs : ∀ x ∈ ss, 0 ≤ x ∧ x ≤ c) (hc : c ≤ 1000000) (hg2 : ∀ x ∈ gs2, 1 ≤ x ∧ x ≤ 1000000) (hs2 : ∀ x ∈ ss2, 0 ≤ x ∧ x ≤ c2) (hc2 : c2 ≤ 1000000)
    (s1 : sumI gs = c) (s2 : sumI gs2 = c2) : TB 3000000 (mgX vs gs ss vs2 gs2 ss2) ∧ (mgX vs gs ss vs2 gs2 ss2).length = vs.length + vs2.length ∧ mgN vs gs ss vs2 gs2 ss2 (vs.length + vs2.length) = (vs.length, vs2.length, mgX vs gs ss vs2 gs2 ss2) := by
  obtain ⟨⟨i0, k0, X0⟩, hp⟩ : ∃ p, mgN vs gs ss vs2 gs2 ss2 (vs.length + vs2.length) = p := ⟨_, rfl⟩
  obtain ⟨e1, e2, e3, e4, e5, e6, e7⟩ := mgN_ok l1 l2 l3 l4 hg hs hc hg2 hs2 hc2 _ (Nat.le_refl _) i0 k0 X0 hp
  have hi : i0 = vs.length := by omega
  have hk : k0 = vs2.length := by omega
  subst hi hk
  have hX : mgX vs gs ss vs2 gs2 ss2 = X0 := by unfold mgX; rw [hp]
  rw [hX]
  refine ⟨⟨e5, e6, ?_⟩, e4, hp⟩
  rw [e7, ← l1, List.take_length, ← l3, List.take_length, s1, s2]
  omega
/-- Whether two summaries can be merged, and what they give. -/
def mgOk (n c : Int) (vs : List (Option Nat)) (gs ss : List Int) (n2 c2 : Int) (vs2 : List (Option Nat)) (gs2 ss2 : List Int) : Bool :=
  summB n c vs gs ss && summB n2 c2 vs2 gs2 ss2 && decide (n = n2) && sumT n (c + c2) (stT n (c + c2) (mgX vs gs ss vs2 gs2 ss2))
def mgL (n c : Int) (vs : List (Option Nat)) (gs ss : List Int) (n2 c2 : Int) (vs2 : List (Option Nat)) (gs2 ss2 : List Int) : List Tp :=
  if mgOk n c vs gs ss n2 c2 vs2 gs2 ss2 then stT n (c + c2) (mgX vs gs ss vs2 gs2 ss2) else []
theorem mgL_len (n c : Int) (vs : List (Option Nat)) (gs ss : List Int) (n2 c2 : Int) (vs2 : List (Option Nat)) (gs2 ss2 : List Int) : (mgL n c vs gs ss n2 c2 vs2 gs2 ss2).length ≤ 64 := by
  unfold mgL
  cases e : mgOk n c vs gs ss n2 c2 vs2 gs2 ss2
  · exact Nat.zero_le _
  · unfold mgOk at e
    obtain ⟨_, e2⟩ := Bool.and_eq_true_iff.1 e
    obtain ⟨_, _, h, _⟩ := summB_all' e2
    simpa using h
end Go.Proofs.Ytkkcfbpgcekmjaa
