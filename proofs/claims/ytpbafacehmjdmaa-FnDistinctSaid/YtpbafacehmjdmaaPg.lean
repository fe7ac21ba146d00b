/- Bytes as an argument of a law. -/
import Derived.Test.YtpbafacehmjdmaaZl
namespace Go.Proofs.Ytpbafacehmjdmaa
open Go.ChangeShapes Go.WideShapes Go.ChangeAt Go.RowKit
set_option linter.unusedSimpArgs false
set_option linter.unusedVariables false

theorem bnd_u8 {c : Int} (h : (Lit.int .u8 c).wf = true) : 0 ≤ c ∧ c ≤ 255 := by
  simpa [Lit.wf, IntKind.min, IntKind.max, IntKind.signed, IntKind.bits] using h
set_option maxRecDepth 100000 in
theorem arg_u8s {H0 : Type} {enc : TypeId × Value → H0} {W : World} {r : Reach} {base : Nat} {v : Value} {d : DataW H0} {p : List MemPlace} {μ : Nat → Pl} {H : Hp} (hR : Rep W μ H W)
    (hv : Value.okWide Try.prog W r base 22 v) (h : DataW.Trod enc Try.prog W 0 (fun _ => true) true 22 v d p) :
    ∃ (xs : List Int) (lv : LV) (H' : Hp) (μ' : Nat → Pl), xs.length ≤ 9223372036854775807 ∧ (∀ y ∈ xs, 0 ≤ y ∧ y ≤ 255) ∧ Rep W μ' (H ++ H') W ∧ Ext μ H μ' (H ++ H') ∧ BR μ' (H ++ H') lv v ∧ RdL (H ++ H') lv (xs.map (LV.int .u8)) := by
  obtain ⟨fuel, x, hx⟩ := trod_sl Try.underlying22 hv h
  exact arg_row hR (LV.int .u8) _ Try.underlying22 (by kernel_rfl) (fun fuel cs x hx => by obtain ⟨b, hb, _, hw⟩ := DataW.trod_int Try.underlying5 hx; exact ⟨b, _, hb, bnd_u8 hw, rfl, fun _ _ => rfl⟩) hx
end Go.Proofs.Ytpbafacehmjdmaa
