/- Numbers as bits, equal numbers, in the abstract machine. -/
import Derived.Test.YtpbafacehmjdmaaBj
import Derived.Test.YtpbafacehmjdmaaSame
import Derived.Laws.Externs
namespace Go.Proofs.Ytpbafacehmjdmaa
open Go.RowKit
set_option linter.unusedSimpArgs false
set_option linter.unusedVariables false
set_option maxRecDepth 100000

theorem arr1 {R : LV → Value → Prop} {x : LV} {a : Array Value} (h : All2 R [x] a.toList) : ∃ v, a = #[v] ∧ R x v := by
  obtain ⟨l⟩ := a
  match l, h with
  | [v], h => exact ⟨v, rfl, h.1⟩
theorem float64frombits_c (n : Int) (H : Hp) : FunH Try.prog 54 [.int .u64 n] H fun r H' => r = .flt .f64 (can .f64 n.toNat) ∧ H' = H := by
  intro w0 μ w cargs hR ha
  obtain ⟨v, rfl, hb⟩ := arr1 ha
  have hb' : v = .int .u64 n := hb
  subst hb'
  rw [run_callFunc_extern Try.func54 (by kernel_rfl) rfl (by kernel_rfl) (show Extern.find _ = some Extern.MathFloatBits.float64frombits by kernel_rfl)]
  exact ⟨.flt .f64 (can .f64 n.toNat), μ, H, hR, ⟨_, rfl, rfl⟩, Ext.refl _ _, rfl, rfl⟩
def bitsO (o : Option Nat) : Int := match o with
  | none => 2143289344
  | some b => (b : Int)
def sameO (a b : Option Nat) : Bool := decide (a = b)
end Go.Proofs.Ytpbafacehmjdmaa
