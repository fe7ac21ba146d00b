/- ValidDecay. -/
import Derived.Test.YtajekmpjebhaoaaFl
namespace Go.Proofs.Ytajekmpjebhaoaa
open Go.RowKit
set_option linter.unusedSimpArgs false
set_option linter.unusedVariables false

def inB (n lo hi : Int) : Bool := decide (lo ≤ n) && decide (n ≤ hi)

theorem l00In_any (n lo hi : Int) (w : World) : Calls Try.prog 79 #[.int .i64 n, .int .i64 lo, .int .i64 hi] w fun e w' => e = .returned (.bool (inB n lo hi)) ∧ w' = w := by
  go_enter Try.func79, Try.ntmps79
  go_wp2
  all_goals go_ret
  all_goals (unfold inB; simp; try omega)

theorem within_any (n lo hi : Int) (w : World) : Calls Try.prog 82 #[.int .i64 n, .int .i64 lo, .int .i64 hi] w fun e w' => e = .returned (.bool (inB n lo hi)) ∧ w' = w := by
  go_enter Try.func82, Try.ntmps82
  go_wp2
  all_goals go_ret
  all_goals (unfold inB; simp; try omega)

theorem isTime_any (n : Int) (w : World) : Calls Try.prog 67 #[.int .i64 n] w fun e w' => e = .returned (.bool (inB n 0 1000000)) ∧ w' = w := by
  go_enter Try.func67, Try.ntmps67
  go_wp2_with (go_at_call 82; refine (within_any _ _ _ _).mono ?_; rintro e w' ⟨rfl, rfl⟩)
  go_ret
  exact ⟨rfl, rfl⟩

theorem l06Time_any (n : Int) (w : World) : Calls Try.prog 78 #[.int .i64 n] w fun e w' => e = .returned (.bool (inB n 0 1000000)) ∧ w' = w := by
  go_enter Try.func78, Try.ntmps78
  go_wp2_with (go_at_call 79; refine (l00In_any _ _ _ _).mono ?_; rintro e w' ⟨rfl, rfl⟩)
  go_ret
  exact ⟨rfl, rfl⟩

def posB (k : FloatKind) (b : Nat) : Bool := k.format.order b 0 == some .gt

theorem l02Above_any (b : Nat) (w : World) : Calls Try.prog 121 #[.float .f32 b] w fun e w' => e = .returned (.bool (finB .f32 b && posB .f32 b)) ∧ ∃ n, w' = w.drewN n := by
  go_enter Try.func121, Try.ntmps121
  go_wp2_with (go_at_call 72; refine (l01Finite_any _ _).mono ?_; rintro e w' ⟨rfl, n, rfl⟩)
  all_goals go_ret
  all_goals (refine ⟨?_, _, rfl⟩; simp [*, posB])

def vdec (h s : Nat) (m : Int) : Bool := finB .f32 h && posB .f32 h && finB .f32 s && inB m 0 1000000

theorem l06Decay_any (b h s : Nat) (m : Int) (w : World) (h0 : w.cell? ⟨b, 0, none⟩ = some (.float .f32 h)) (h1 : w.cell? ⟨b, 1, none⟩ = some (.float .f32 s)) (h2 : w.cell? ⟨b, 2, none⟩ = some (.int .i64 m)) :
    Calls Try.prog 65 #[.pointer (some ⟨b, 0, none⟩)] w fun e w' => e = .returned (.bool (vdec h s m)) ∧ ∃ n, w' = w.drewN n := by
  go_enter Try.func65, Try.ntmps65
  go_wp2_with (first | (go_at_call 121; refine (l02Above_any _ _).mono ?_; rintro e w' ⟨rfl, n, rfl⟩) | (go_at_call 72; refine (l01Finite_any _ _).mono ?_; rintro e w' ⟨rfl, n, rfl⟩) | (go_at_call 78; refine (l06Time_any _ _).mono ?_; rintro e w' ⟨rfl, rfl⟩))
  all_goals go_ret
  all_goals (refine ⟨?_, _, rfl⟩; simp_all [vdec])

theorem sValidDecay_any (h s : Nat) (m : Int) (w : World) :
    Calls Try.prog 15 #[.agg #[.float .f32 h, .float .f32 s, .int .i64 m]] w fun e w' => e = .returned (.bool (vdec h s m)) ∧ Below w.heap.size w w' := by
  go_enter Try.func15, Try.ntmps15
  go_wp2_with (go_at_call 65; refine (l06Decay_any _ h s m _ (by go_simp) (by go_simp) (by go_simp)).mono ?_; rintro e w' ⟨rfl, n, rfl⟩)
  go_ret
  exact ⟨rfl, by (repeat (first | exact Below.refl _ _ | assumption | apply Below.drew | apply below_drewN' | apply below_alloc' | refine below_next ?_ (by assumption) | refine Below.setCell ?_ (by first | omega | (simp; omega) | simp) _))⟩

theorem iValidDecay_any (h s : Nat) (m : Int) (w : World) :
    Calls Try.prog 17 #[.agg #[.float .f32 h, .float .f32 s, .int .i64 m]] w fun e w' => e = .returned (.bool (vdec h s m)) ∧ Below w.heap.size w w' := by
  go_enter Try.func17, Try.ntmps17
  go_wp2_with (first | (go_at_call 66; refine (IsFinite_any _ _).mono ?_; rintro e w' ⟨rfl, n, rfl⟩) | (go_at_call 67; refine (isTime_any _ _).mono ?_; rintro e w' ⟨rfl, rfl⟩))
  all_goals go_ret
  all_goals (refine ⟨?_, by (repeat (first | exact Below.refl _ _ | assumption | apply Below.drew | apply below_drewN' | apply below_alloc' | refine below_next ?_ (by assumption) | refine Below.setCell ?_ (by first | omega | (simp; omega) | simp) _))⟩; simp_all [vdec, posB])

end Go.Proofs.Ytajekmpjebhaoaa
