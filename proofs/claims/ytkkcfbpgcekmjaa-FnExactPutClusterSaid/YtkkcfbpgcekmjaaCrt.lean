/- Arguments that are structs, taken apart: the other structs. -/
import Derived.Test.YtkkcfbpgcekmjaaZl
namespace Go.Proofs.Ytkkcfbpgcekmjaa
open Go.ChangeShapes Go.WideShapes Go.ChangeAt Go.RowKit
set_option linter.unusedSimpArgs false
set_option linter.unusedVariables false
set_option maxRecDepth 100000

set_option maxRecDepth 100000 in
theorem arg_Zeros {H0 : Type} {enc : TypeId × Value → H0} {W : World} {r : Reach} {base : Nat} {v : Value} {d : DataW H0} {p : List MemPlace} {μ : Nat → Pl} {H : Hp} (hR : Rep W μ H W)
    (hv : Value.okWide Try.prog W r base 49 v) (h : DataW.Trod enc Try.prog W 0 (fun _ => true) true 49 v d p) :
    ∃ (v0 : Int) (x1 : List Int) (v1 : LV) (H' : Hp) (μ' : Nat → Pl), (-9223372036854775808 ≤ v0 ∧ v0 ≤ 9223372036854775807) ∧ x1.length ≤ 9223372036854775807 ∧ (∀ y ∈ x1, -9223372036854775808 ≤ y ∧ y ≤ 9223372036854775807) ∧ Rep W μ' (H ++ H') W ∧ Ext μ H μ' (H ++ H') ∧ LR μ' (H ++ H') (.agg [.int .i64 v0, v1]) v ∧ RdL (H ++ H') v1 (x1.map (LV.int .i64)) := by
  obtain ⟨c0, c1, y0, y1, m, rfl, rfl, rfl, hy0, hy1⟩ := Joins.open_agg2 Try.underlying49 (by kernel_rfl) (by kernel_rfl) hv h
  obtain ⟨v0, e0, _, w0⟩ := DataW.trod_int Try.underlying2 hy0
  simp at e0; subst e0
  obtain ⟨x1, v1, H1, μ1, l1, g1, hR1, hx1, b1, r1⟩ := row_i64s hR hy1
  simp only [List.append_assoc] at *
  refine ⟨v0, x1, v1, _, _, bounds_i64' w0, l1, g1, hR1, hx1, ⟨_, rfl, rfl, b1, trivial⟩, r1⟩
set_option maxRecDepth 100000 in
theorem arg_Clusters {H0 : Type} {enc : TypeId × Value → H0} {W : World} {r : Reach} {base : Nat} {v : Value} {d : DataW H0} {p : List MemPlace} {μ : Nat → Pl} {H : Hp} (hR : Rep W μ H W)
    (hv : Value.okWide Try.prog W r base 83 v) (h : DataW.Trod enc Try.prog W 0 (fun _ => true) true 83 v d p) :
    ∃ (v0 : Int) (x1 : List (Option Nat)) (v1 : LV) (x2 : List Int) (v2 : LV) (H' : Hp) (μ' : Nat → Pl), (-9223372036854775808 ≤ v0 ∧ v0 ≤ 9223372036854775807) ∧ x1.length ≤ 9223372036854775807 ∧ (∀ y ∈ x1, FOk y) ∧ x2.length ≤ 9223372036854775807 ∧ (∀ y ∈ x2, -9223372036854775808 ≤ y ∧ y ≤ 9223372036854775807) ∧ Rep W μ' (H ++ H') W ∧ Ext μ H μ' (H ++ H') ∧ LR μ' (H ++ H') (.agg [.int .i64 v0, v1, v2]) v ∧ RdL (H ++ H') v1 (x1.map (LV.flt .f32)) ∧ RdL (H ++ H') v2 (x2.map (LV.int .i64)) := by
  obtain ⟨c0, c1, c2, y0, y1, y2, m, rfl, rfl, rfl, hy0, hy1, hy2⟩ := Joins.open_agg3 Try.underlying83 (by kernel_rfl) (by kernel_rfl) hv h
  obtain ⟨v0, e0, _, w0⟩ := DataW.trod_int Try.underlying2 hy0
  simp at e0; subst e0
  obtain ⟨x1, v1, H1, μ1, l1, g1, hR1, hx1, b1, r1⟩ := row_f32s hR hy1
  obtain ⟨x2, v2, H2, μ2, l2, g2, hR2, hx2, b2, r2⟩ := row_i64s hR1 hy2
  replace b1 := BR.ext hx2 b1; replace r1 := r1.app H2
  simp only [List.append_assoc] at *
  refine ⟨v0, x1, v1, x2, v2, _, _, bounds_i64' w0, l1, g1, l2, g2, hR2, (hx1).trans hx2, ⟨_, rfl, rfl, b1, b2, trivial⟩, r1, r2⟩
set_option maxRecDepth 100000 in
theorem arg_Tops {H0 : Type} {enc : TypeId × Value → H0} {W : World} {r : Reach} {base : Nat} {v : Value} {d : DataW H0} {p : List MemPlace} {μ : Nat → Pl} {H : Hp} (hR : Rep W μ H W)
    (hv : Value.okWide Try.prog W r base 60 v) (h : DataW.Trod enc Try.prog W 0 (fun _ => true) true 60 v d p) :
    ∃ (v0 : Int) (x1 : List Int) (v1 : LV) (x2 : List Int) (v2 : LV) (x3 : List Int) (v3 : LV) (H' : Hp) (μ' : Nat → Pl), (-9223372036854775808 ≤ v0 ∧ v0 ≤ 9223372036854775807) ∧ x1.length ≤ 9223372036854775807 ∧ (∀ y ∈ x1, -9223372036854775808 ≤ y ∧ y ≤ 9223372036854775807) ∧ x2.length ≤ 9223372036854775807 ∧ (∀ y ∈ x2, -9223372036854775808 ≤ y ∧ y ≤ 9223372036854775807) ∧ x3.length ≤ 9223372036854775807 ∧ (∀ y ∈ x3, -9223372036854775808 ≤ y ∧ y ≤ 9223372036854775807) ∧ Rep W μ' (H ++ H') W ∧ Ext μ H μ' (H ++ H') ∧ LR μ' (H ++ H') (.agg [.int .i64 v0, v1, v2, v3]) v ∧ RdL (H ++ H') v1 (x1.map (LV.int .i64)) ∧ RdL (H ++ H') v2 (x2.map (LV.int .i64)) ∧ RdL (H ++ H') v3 (x3.map (LV.int .i64)) := by
  obtain ⟨c0, c1, c2, c3, y0, y1, y2, y3, m, rfl, rfl, rfl, hy0, hy1, hy2, hy3⟩ := Joins.open_agg4 Try.underlying60 (by kernel_rfl) (by kernel_rfl) hv h
  obtain ⟨v0, e0, _, w0⟩ := DataW.trod_int Try.underlying2 hy0
  simp at e0; subst e0
  obtain ⟨x1, v1, H1, μ1, l1, g1, hR1, hx1, b1, r1⟩ := row_i64s hR hy1
  obtain ⟨x2, v2, H2, μ2, l2, g2, hR2, hx2, b2, r2⟩ := row_i64s hR1 hy2
  obtain ⟨x3, v3, H3, μ3, l3, g3, hR3, hx3, b3, r3⟩ := row_i64s hR2 hy3
  replace b1 := BR.ext hx2 b1; replace r1 := r1.app H2
  replace b1 := BR.ext hx3 b1; replace r1 := r1.app H3
  replace b2 := BR.ext hx3 b2; replace r2 := r2.app H3
  simp only [List.append_assoc] at *
  refine ⟨v0, x1, v1, x2, v2, x3, v3, _, _, bounds_i64' w0, l1, g1, l2, g2, l3, g3, hR3, ((hx1).trans hx2).trans hx3, ⟨_, rfl, rfl, b1, b2, b3, trivial⟩, r1, r2, r3⟩
end Go.Proofs.Ytkkcfbpgcekmjaa
