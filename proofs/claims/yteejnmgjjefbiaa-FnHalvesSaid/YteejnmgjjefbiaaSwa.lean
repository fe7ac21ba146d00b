/- Words of floats: order, sorted lists, plainly. -/
import Derived.Test.YteejnmgjjefbiaaSo
import Derived.Test.YteejnmgjjefbiaaFg
import Derived.Test.YteejnmgjjefbiaaCb
namespace Go.Proofs.Yteejnmgjjefbiaa
open Go.RowKit
set_option linter.unusedSimpArgs false
set_option linter.unusedVariables false
set_option maxRecDepth 100000

def Fw (w : Nat) : LV := .flt .f32 (some w)
def kW (w : Nat) : Int := key FloatKind.f32.format w
theorem Fw_map (ws : List Nat) : (ws.map some).map (LV.flt .f32) = ws.map Fw := by rw [List.map_map]; rfl
theorem Fw_cell (w : Nat) : (Fw w).isCell = true := rfl
theorem Fw_cells (w : Nat) : cellsL (Fw w) = [Fw w] := rfl
theorem kW_lt (a b : Nat) : fLt .f32 (some a) (some b) = decide (kW a < kW b) := fLt_key .f32 a b
theorem words_of {xs : List (Option Nat)} (h : xs.all finO = true) : ∃ ws : List Nat, xs = ws.map some := by
  induction xs with
  | nil => exact ⟨[], rfl⟩
  | cons x xs ih =>
    rw [List.all_cons, Bool.and_eq_true] at h
    obtain ⟨ws, rfl⟩ := ih h.2
    cases x with
    | none => exact absurd h.1 (by simp [finO])
    | some w => exact ⟨w :: ws, rfl⟩
def srtO (xs : List (Option Nat)) : List (Option Nat) := (srt kW (xs.map fun o => o.getD 0)).map some
theorem getD_some (ws : List Nat) : (ws.map some).map (fun o => o.getD 0) = ws := by rw [List.map_map]; induction ws with
  | nil => rfl
  | cons w ws ih => rw [List.map_cons, ih]; rfl
theorem srtO_some (ws : List Nat) : srtO (ws.map some) = (srt kW ws).map some := by unfold srtO; rw [getD_some]
theorem srtO_len (xs : List (Option Nat)) : (srtO xs).length = xs.length := by unfold srtO; rw [List.length_map, srt_len, List.length_map]
theorem asc_take_rg {D : List Nat} : rg D 0 D.length = D := rg_zero D rfl
theorem upd_full (D : List Nat) : upd kW D 0 D.length = srt kW D := by unfold upd; rw [asc_take_rg]; simp
end Go.Proofs.Yteejnmgjjefbiaa
