/- Peeling, plainly. -/
import Derived.Test.YthcbbnigpkkkiaaQc
namespace Go.Proofs.Ythcbbnigpkkkiaa
open Go.RowKit
set_option linter.unusedSimpArgs false
set_option linter.unusedVariables false

/-- The keys that a cell holds, in their order. -/
def holdL (n s : Int) (left : List Int) (c : Nat) : List Int := left.filter fun k => (thrL k n s 3).contains (c : Int)
def holdR (n s : Int) (left : List Int) : List (List Int) := (List.range (3 * n).toNat).map (holdL n s left)
/-- The first cell that holds one key. -/
def oneI (n s : Int) (left : List Int) : Int := idxF (fun r => r.length == 1) (holdR n s left)
def peelG (n s : Int) : Nat → List Int → List Int → List Int → Option (List Int × List Int)
  | 0, _, o, t => some (o, t)
  | m + 1, left, o, t => if oneI n s left < 0 then none else
      peelG n s m (left.filter fun k => !(k == ix (holdL n s left (oneI n s left).toNat) 0)) (o ++ [ix (holdL n s left (oneI n s left).toNat) 0]) (t ++ [oneI n s left])
theorem holdL_nil (n s : Int) (c : Nat) : holdL n s [] c = [] := rfl
theorem holdL_app (n s : Int) (a b : List Int) (c : Nat) : holdL n s (a ++ b) c = holdL n s a c ++ holdL n s b c := by unfold holdL; rw [List.filter_append]
theorem holdL_one (n s k : Int) (c : Nat) : holdL n s [k] c = if (thrL k n s 3).contains (c : Int) then [k] else [] := by
  unfold holdL
  rw [List.filter_cons, List.filter_nil]
theorem holdL_del (n s key : Int) (left : List Int) (c : Nat) : holdL n s (left.filter fun k => !(k == key)) c = keepF (fun k => k == key) (holdL n s left c) := by
  unfold holdL keepF
  rw [List.filter_filter, List.filter_filter]
  congr 1; funext k; rw [Bool.and_comm]
theorem holdR_len (n s : Int) (left : List Int) : (holdR n s left).length = (3 * n).toNat := by simp [holdR]
theorem holdR_ix (n s : Int) (left : List Int) {c : Nat} (h : c < (3 * n).toNat) : ix (holdR n s left) c = holdL n s left c := by
  rw [ix_eq _ _ (by rw [holdR_len]; exact h)]; simp [holdR]
end Go.Proofs.Ythcbbnigpkkkiaa
