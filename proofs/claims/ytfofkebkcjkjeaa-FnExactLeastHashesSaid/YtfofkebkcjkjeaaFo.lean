/- Numbers that are words. -/
import Derived.Test.YtfofkebkcjkjeaaFl
namespace Go.Proofs.Ytfofkebkcjkjeaa
/-- A number that comes from a 32-bit word, or none. -/
def FOk (o : Option Nat) : Prop := ∀ b, o = some b → isNum .f32 b = true ∧ b < 4294967296
theorem can_lit32 {b : Nat} (h : b % 2147483648 ≤ 2139095040) : can .f32 b = some b := can_num ((isNum_iff .f32 b).2 h)
theorem can_lit64 {b : Nat} (h : b % 9223372036854775808 ≤ 9218868437227405312) : can .f64 b = some b := can_num ((isNum_iff .f64 b).2 h)
attribute [go_sem] can_lit32 can_lit64
theorem ite_zero {α : Type} {b : Int} {x y : α} (h : ¬ b = 0) : (if b = 0 then x else y) = y := if_neg h
theorem len_add {α : Type} (H : List α) (a b : Nat) : H.length + a + b = H.length + (a + b) := Nat.add_assoc _ _ _
attribute [go_sem] len_add ite_zero Option.isSome_some Option.isSome_none
end Go.Proofs.Ytfofkebkcjkjeaa
