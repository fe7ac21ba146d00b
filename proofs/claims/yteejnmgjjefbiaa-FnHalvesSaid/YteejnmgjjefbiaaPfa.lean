/- Lists of small numbers and shares: what of them is decided outright. -/
import Derived.Test.YteejnmgjjefbiaaPc
import Derived.Test.YteejnmgjjefbiaaPa
namespace Go.Proofs.Yteejnmgjjefbiaa
open Go.RowKit
set_option linter.unusedSimpArgs false
set_option linter.unusedVariables false
set_option maxRecDepth 100000

theorem fB_finH0 : ((List.range 33).all fun p => finO (fB (p : Nat))) = true := by decide +kernel
theorem fB_finH {p : Int} (h0 : 0 ≤ p) (h1 : p < 33) : finO (fB p) = true := by
  obtain ⟨k, rfl⟩ := Int.eq_ofNat_of_zero_le h0
  exact List.all_eq_true.1 fB_finH0 k (List.mem_range.2 (by omega))
theorem b10L_fin {xs : List Int} (h : byB xs) (n : Nat) : (b10L xs n).all finO = true := by
  rw [List.all_eq_true]
  intro x hx
  obtain ⟨k, _, rfl⟩ := List.mem_map.1 hx
  exact fB_finH (b10A_in h k).1 (b10A_in h k).2
def shFH (k : Nat) : Option Nat := opC .quo .f32 (some (FloatKind.f32.nearest (k : Nat))) (some 1098907648)
theorem okAH : ((List.range 17).all fun k => shareB (shFH k)) = true := by decide +kernel
theorem ok_shareH {k : Nat} (h : k < 17) : shareB (shFH k) = true := List.all_eq_true.1 okAH k (List.mem_range.2 h)
end Go.Proofs.Yteejnmgjjefbiaa
