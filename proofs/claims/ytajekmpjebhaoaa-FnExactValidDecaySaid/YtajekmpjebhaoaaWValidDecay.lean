/- The program's ValidDecay returns what the reference's returns, for all arguments; no condition. -/
import Derived.Test.YtajekmpjebhaoaaArgD
import Derived.Test.YtajekmpjebhaoaaVdec
namespace Go.Proofs.Ytajekmpjebhaoaa
open Go.ChangeShapes Go.WideShapes Go.ChangeAt Go.RowKit
set_option linter.unusedSimpArgs false
set_option linter.unusedVariables false

theorem walkVdec (h s : Nat) (m : Int) (w : World) :
    Calls Try.prog 3 #[.agg #[.float .f32 h, .float .f32 s, .int .i64 m]] w fun e w' => e = .returned (.bool true) ∧ Below w.heap.size w w' := by
  go_enter Try.func3, Try.ntmps3
  go_wp2_with fail
  refine (toDecay_any h s m _).mono ?_
  rintro e w1 ⟨rfl, hb1⟩
  obtain ⟨hc1, hf1⟩ := bcell hb1
  have hs1 : w.heap.size < w1.heap.size := by have := hb1.size; simp at this; omega
  go_wp2_with fail
  refine (sValidDecay_any h s m _).mono ?_
  rintro e w2 ⟨rfl, hb2⟩
  obtain ⟨hc2, hf2⟩ := bcell hb2
  have hs2 : w.heap.size < w2.heap.size := by have := hb2.size; omega
  go_wp2_with fail
  refine (toDecay_any h s m _).mono ?_
  rintro e w3 ⟨rfl, hb3⟩
  go_wp2_with fail
  refine (iValidDecay_any h s m _).mono ?_
  rintro e w4 ⟨rfl, hb4⟩
  go_wp2
  go_ret
  exact ⟨rfl, by (repeat (first | exact Below.refl _ _ | assumption | apply Below.drew | apply below_drewN' | apply below_alloc' | refine below_next ?_ (by assumption) | refine Below.setCell ?_ (by first | omega | (simp; omega) | simp) _))⟩

end Go.Proofs.Ytajekmpjebhaoaa
