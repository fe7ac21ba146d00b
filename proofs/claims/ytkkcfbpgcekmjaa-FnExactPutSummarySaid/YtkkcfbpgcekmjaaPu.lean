/- PutSummary: what is put where, in plain words. -/
import Derived.Test.YtkkcfbpgcekmjaaIy
import Derived.Test.YtkkcfbpgcekmjaaEk
import Derived.Test.YtkkcfbpgcekmjaaHl
namespace Go.Proofs.Ytkkcfbpgcekmjaa
open Go.RowKit
set_option linter.unusedSimpArgs false
set_option linter.unusedVariables false
set_option maxRecDepth 100000

/-- Where a number is put. -/
def psP (vs : List (Option Nat)) (z : Option Nat) : Nat := vs.countP fun y => fLe .f32 y z
def psK (gs ss : List Int) (n p : Nat) : Int := if 0 < p ∧ p < n then ix gs p + ix ss p - 1 else 0
def psX (vs : List (Option Nat)) (gs ss : List Int) (z : Option Nat) : List Tp := insA (mkT vs gs ss) (psP vs z) ((z, 1, psK gs ss vs.length (psP vs z)) : Tp)
def psT (n c : Int) (vs : List (Option Nat)) (gs ss : List Int) (z : Option Nat) : List Tp := stT n (c + 1) (psX vs gs ss z)
def psOk (n c : Int) (vs : List (Option Nat)) (gs ss : List Int) (z : Option Nat) : Bool := summB n c vs gs ss && finO z && sumT n (c + 1) (psT n c vs gs ss z)
def psL (n c : Int) (vs : List (Option Nat)) (gs ss : List Int) (z : Option Nat) : List Tp := if psOk n c vs gs ss z then psT n c vs gs ss z else []
theorem psL_len (n c : Int) (vs : List (Option Nat)) (gs ss : List Int) (z : Option Nat) : (psL n c vs gs ss z).length ≤ 64 := by
  unfold psL
  cases e : psOk n c vs gs ss z
  · exact Nat.zero_le _
  · unfold psOk at e
    obtain ⟨_, e2⟩ := Bool.and_eq_true_iff.1 e
    obtain ⟨_, _, h, _⟩ := summB_all' e2
    simpa using h
theorem sumI_appP (a b : List Int) : sumI (a ++ b) = sumI a + sumI b := by
  induction a with
  | nil => rw [List.nil_append]; show _ = 0 + _; omega
  | cons x a ih => rw [List.cons_append, sumI_cons, sumI_cons, ih]; omega
theorem sumI_insP (cs : List Int) (i : Nat) (x : Int) : sumI (insA cs i x) = sumI cs + x := by
  have h := sumI_appP (cs.take i) (cs.drop i)
  rw [List.take_append_drop] at h
  unfold insA
  rw [sumI_appP, sumI_cons, h]
  omega
theorem insA_mapT {α β : Type} (f : α → β) (xs : List α) (i : Nat) (x : α) : (insA xs i x).map f = insA (xs.map f) i (f x) := by unfold insA; simp
theorem psP_le (vs : List (Option Nat)) (z : Option Nat) : psP vs z ≤ vs.length := List.countP_le_length
theorem psK_ok {n c : Int} {vs : List (Option Nat)} {gs ss : List Int} (e : summB n c vs gs ss = true) (p : Nat) : 0 ≤ psK gs ss vs.length p ∧ psK gs ss vs.length p ≤ 2000000 := by
  obtain ⟨a1, a2, a3, a4, a5, a6, a7, a8, a9, a10⟩ := summB_all' e
  unfold psK
  split
  · rename_i h
    have g := a7 _ (ix_mem gs p (by omega))
    have s := a8 _ (ix_mem ss p (by omega))
    omega
  · omega
theorem psX_ok {n c : Int} {vs : List (Option Nat)} {gs ss : List Int} (e : summB n c vs gs ss = true) (z : Option Nat) :
    (psX vs gs ss z).length = vs.length + 1 ∧ (psX vs gs ss z).map tv = insA vs (psP vs z) z ∧ (psX vs gs ss z).map tg = insA gs (psP vs z) 1 ∧ (psX vs gs ss z).map ts = insA ss (psP vs z) (psK gs ss vs.length (psP vs z)) ∧ TB 3000000 (psX vs gs ss z) := by
  obtain ⟨a1, a2, a3, a4, a5, a6, a7, a8, a9, a10⟩ := summB_all' e
  obtain ⟨m1, m2, m3, m4⟩ := mkT_all a4 a5
  have hk := psK_ok e (psP vs z)
  have hp := psP_le vs z
  have hg : (psX vs gs ss z).map tg = insA gs (psP vs z) 1 := by unfold psX; rw [insA_mapT, m2]; rfl
  have hs : (psX vs gs ss z).map ts = insA ss (psP vs z) (psK gs ss vs.length (psP vs z)) := by unfold psX; rw [insA_mapT, m3]; rfl
  refine ⟨?_, ?_, hg, hs, fun t ht => ?_, fun t ht => ?_, ?_⟩
  · unfold psX; rw [insA_len (by omega), m4]
  · unfold psX; rw [insA_mapT, m1]; rfl
  · have h := List.mem_map_of_mem (f := tg) ht
    rw [hg] at h
    exact insA_all (P := fun y => 0 ≤ y) (fun y hy => by have := a7 y hy; omega) (by omega) _ h
  · have h := List.mem_map_of_mem (f := ts) ht
    rw [hs] at h
    exact insA_all (P := fun y => 0 ≤ y ∧ y ≤ 3000000) (fun y hy => by have := a8 y hy; omega) (by omega) _ h
  · rw [hg, sumI_insP]; omega
end Go.Proofs.Ytkkcfbpgcekmjaa
