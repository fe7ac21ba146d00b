/- Two numbers are the same: by their bits, and as the program tells it. -/
import Derived.Test.YtpbafacehmjdmaaZp
namespace Go.Proofs.Ytpbafacehmjdmaa
open Go.RowKit
set_option linter.unusedSimpArgs false
set_option linter.unusedVariables false

def sameN (a b : Nat) : Bool := decide (can .f32 a = can .f32 b)

theorem order_self (k : FloatKind) (b : Nat) (h : isNum k b = true) : k.format.order b b = some .eq := by rw [order_key k b b h h, cmp_eq rfl]






end Go.Proofs.Ytpbafacehmjdmaa
