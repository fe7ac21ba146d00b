/- A decay, as the laws take it. -/
import Derived.Test.YtajekmpjebhaoaaLw
namespace Go.Proofs.Ytajekmpjebhaoaa
open Go.ChangeShapes Go.WideShapes Go.ChangeAt Go.RowKit
set_option linter.unusedSimpArgs false
set_option linter.unusedVariables false

theorem bounds_i64 {c : Int} (h : (Lit.int .i64 c).wf = true) : -9223372036854775808 ≤ c ∧ c ≤ 9223372036854775807 := by
  simpa [Lit.wf, IntKind.min, IntKind.max, IntKind.signed, IntKind.bits] using h

theorem cells24 : Try.prog.cellsOf 24 = 3 := by kernel_rfl

set_option maxRecDepth 100000 in
theorem open_Decay {H : Type} {enc : TypeId × Value → H} {W : World} {r : Reach} {base : Nat} {v : Value} {d : DataW H} {p : List MemPlace}
    (hv : Value.okWide Try.prog W r base 24 v) (h : DataW.Trod enc Try.prog W 0 (fun _ => true) true 24 v d p) :
    ∃ (a b : Nat) (c : Int), v = .agg #[.float .f32 a, .float .f32 b, .int .i64 c] ∧ a < 4294967296 ∧ b < 4294967296 ∧ -9223372036854775808 ≤ c ∧ c ≤ 9223372036854775807 := by
  obtain ⟨c0, c1, c2, y0, y1, y2, m, rfl, rfl, rfl, hy0, hy1, hy2⟩ := Joins.open_agg3 Try.underlying24 (by kernel_rfl) cells24 hv h
  obtain ⟨a, e0, rfl, w0⟩ := DataW.trod_float Try.underlying22 hy0
  obtain ⟨b, e1, rfl, w1⟩ := DataW.trod_float Try.underlying22 hy1
  obtain ⟨c, e2, rfl, w2⟩ := DataW.trod_int Try.underlying2 hy2
  simp at e0 e1 e2
  subst e0 e1 e2
  exact ⟨a, b, c, rfl, by simpa [Lit.wf] using w0, by simpa [Lit.wf] using w1, bounds_i64 w2⟩


theorem toDecay_any (h s : Nat) (m : Int) (w : World) :
    Calls Try.prog 16 #[.agg #[.float .f32 h, .float .f32 s, .int .i64 m]] w fun e w' => e = .returned (.agg #[.float .f32 h, .float .f32 s, .int .i64 m]) ∧ Below w.heap.size w w' := by
  go_enter Try.func16, Try.ntmps16
  go_wp2
  refine bodyPost_ret (v := .agg #[.float .f32 h, .float .f32 s, .int .i64 m]) (by simp [results, Try.results16, go_sem]) rfl ⟨rfl, ?_⟩
  (repeat (first | exact Below.refl _ _ | assumption | apply Below.drew | apply below_drewN' | apply below_alloc' | refine below_next ?_ (by assumption) | refine Below.setCell ?_ (by first | omega | (simp; omega) | simp) _))
end Go.Proofs.Ytajekmpjebhaoaa
