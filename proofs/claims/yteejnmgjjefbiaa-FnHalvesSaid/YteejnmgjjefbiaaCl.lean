/- Lists of lists, levels: the laws' helpers in the abstract machine. -/
import Derived.Test.YteejnmgjjefbiaaZo
namespace Go.Proofs.Yteejnmgjjefbiaa
open Go.RowKit
set_option linter.unusedSimpArgs false
set_option linter.unusedVariables false
set_option maxRecDepth 100000

def RdLL (H : Hp) (L : List LV) (xss : List (List (Option Nat))) : Prop := All2 (fun l xs => RdL H l (xs.map (LV.flt .f32))) L xss
section
variable {H : Hp} {L : List LV} {xss : List (List (Option Nat))} {x : LV} {cs : List LV} {k : Nat}
theorem RdLL.app (h : RdLL H L xss) (K : Hp) : RdLL (H ++ K) L xss := All2.mono (fun _ _ h => RdL.app h K) h
theorem RdLL.length (h : RdLL H L xss) : L.length = xss.length := All2.len h
theorem RdLL.at (h : RdLL H L xss) (hk : k < xss.length) : RdL H (ix L k) ((ix xss k).map (LV.flt .f32)) := by
  have hl := h.length
  obtain ⟨b, h1, h2⟩ := All2.get h k (ix L k) (ix_get? _ _ (by omega))
  rw [ix_get? _ _ hk] at h1; cases h1; exact h2
theorem RdL.ldx (h : RdL H x cs) (hk : k < cs.length) : hgetP H (ptrOf x k) = some (ix cs k) := by rw [h.ld hk, ix_get? _ _ hk]
theorem RdL.ldxA (h : RdL H x cs) (K : Hp) (hk : k < cs.length) : hgetP (H ++ K) (ptrOf x k) = some (ix cs k) := (h.app K).ldx hk
theorem RdL.lenL (h : RdL H x L) (hL : RdLL H L xss) : lenOf x = some xss.length := by rw [h.len, hL.length]
end
theorem lt_of_getF {α : Type} {xs : List α} {i : Nat} {b : α} (h : xs[i]? = some b) : i < xs.length := by
  rcases Nat.lt_or_ge i xs.length with h' | h'
  · exact h'
  · rw [List.getElem?_eq_none h'] at h; cases h
theorem fill_id (z : LV) (xs : List LV) (k : Nat) (h : k < xs.length) : (xs.take k ++ List.replicate (xs.length - k) z).set k (ix xs k) = xs.take (k + 1) ++ List.replicate (xs.length - (k + 1)) z := by
  have := fill_set (fun x => x) z xs k h
  simpa using this
def goodF (xss : List (List (Option Nat))) : Prop := ∀ xs ∈ xss, xs.length ≤ 9223372036854775807 ∧ ∀ y ∈ xs, FOk y
def rowF (xs : List (Option Nat)) : AO := ⟨0, false, 32, 1, xs.map (LV.flt .f32)⟩
def rowsL (b : Nat) (xss : List (List (Option Nat))) : List LV := (List.range xss.length).map fun k => .sl (b + k) 0 0 (ix xss k).length none
theorem rowsL_len (b : Nat) (xss : List (List (Option Nat))) : (rowsL b xss).length = xss.length := by simp [rowsL]
theorem rowsL_ix (b : Nat) (xss : List (List (Option Nat))) (k : Nat) (h : k < xss.length) : ix (rowsL b xss) k = .sl (b + k) 0 0 (ix xss k).length none := by
  have h2 := map_ix (xs := List.range xss.length) (f := fun k => LV.sl (b + k) 0 0 (ix xss k).length none) (k := k) (by simpa using h)
  rw [ix_range h] at h2
  have h3 := ix_get? (rowsL b xss) k (by rw [rowsL_len]; exact h)
  unfold rowsL at h3 ⊢
  rw [h2] at h3
  exact (Option.some.inj h3).symm
def stT (xss : List (List (Option Nat))) (k : Nat) : Nat := ((xss.take k).map List.length).sum
def totL (xss : List (List (Option Nat))) : Nat := xss.length + stT xss xss.length
theorem stT_succ {xss : List (List (Option Nat))} {k : Nat} (h : k < xss.length) : stT xss (k + 1) = stT xss k + (ix xss k).length := by
  unfold stT; rw [take_ix _ _ h]; simp
theorem stT_le (xss : List (List (Option Nat))) : ∀ (m k : Nat), k + m = xss.length → stT xss k ≤ stT xss xss.length
  | 0, k, h => by rw [show k = xss.length by omega]; exact Nat.le_refl _
  | m + 1, k, h => by
    have h1 := stT_le xss m (k + 1) (by omega)
    rw [stT_succ (by omega)] at h1; omega
theorem stT_at {xss : List (List (Option Nat))} {k : Nat} (h : k < xss.length) : stT xss k + (ix xss k).length ≤ stT xss xss.length := by
  have := stT_le xss (xss.length - (k + 1)) (k + 1) (by omega)
  rw [stT_succ h] at this; exact this
def szFF (xss : List (List (Option Nat))) (left : Int) : Int := if left < (totL xss : Nat) then -1 else left - (totL xss : Nat)
end Go.Proofs.Yteejnmgjjefbiaa
