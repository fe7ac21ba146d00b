/- The types of the program, as the abstract machine asks for them. -/
import Derived.Test.YtcjpfifajbjalaaZm
namespace Go.Proofs.Ytcjpfifajbjalaa
open Go.RowKit
set_option linter.unusedSimpArgs false
set_option linter.unusedVariables false

theorem can_f32_0 : can .f32 0 = some 0 := can_num (by rw [isNum_iff]; decide)
theorem can_f64_0 : can .f64 0 = some 0 := can_num (by rw [isNum_iff]; decide)
def OkT (t : TypeId) (e : TE) : Prop := ∃ d i z, Try.prog.underlying t = some d ∧ e.td.Ok d ∧ Try.prog.info? t = some i ∧ i.size = e.sz ∧ i.bytes = e.by_ ∧
  i.zero = some z ∧ e.zs.length = e.sz ∧ (∀ μ H, All2 (BR μ H) e.zs z.cells.toList) ∧ ∀ v ∈ z.cells.toList, v.oneCell' = true
def AllT : List (TypeId × TE) → Prop
  | [] => True
  | p :: l => OkT p.1 p.2 ∧ AllT l
theorem allT_mem : ∀ {l : List (TypeId × TE)}, AllT l → ∀ p ∈ l, OkT p.1 p.2
  | [], _, p, hp => by cases hp
  | q :: l, h, p, hp => by
    rcases List.mem_cons.1 hp with rfl | hp
    · exact h.1
    · exact allT_mem h.2 p hp

def te1 : TE := { td := .other, sz := 1, by_ := 8, zs := [.junk] }
theorem ok1 : OkT 1 te1 := by
  refine ⟨_, Try.t1, _, Try.underlying1, ⟨(fun _ h => by cases h), (fun _ _ h => by cases h)⟩, by kernel_rfl, rfl, rfl, rfl, rfl, fun μ H => ⟨trivial, trivial⟩, ?_⟩
  intro v hv
  simp only [Value.cells, List.mem_cons, List.not_mem_nil, or_false] at hv
  rcases hv with rfl <;> rfl
def te2 : TE := { td := .int .i64, sz := 1, by_ := 8, zs := [.int .i64 0] }
theorem ok2 : OkT 2 te2 := by
  refine ⟨_, Try.t2, _, Try.underlying2, rfl, by kernel_rfl, rfl, rfl, rfl, rfl, fun μ H => ⟨rfl, trivial⟩, ?_⟩
  intro v hv
  simp only [Value.cells, List.mem_cons, List.not_mem_nil, or_false] at hv
  rcases hv with rfl <;> rfl
def te3 : TE := { td := .int .i64, sz := 1, by_ := 8, zs := [.int .i64 0] }
theorem ok3 : OkT 3 te3 := by
  refine ⟨_, Try.t3, _, Try.underlying3, rfl, by kernel_rfl, rfl, rfl, rfl, rfl, fun μ H => ⟨rfl, trivial⟩, ?_⟩
  intro v hv
  simp only [Value.cells, List.mem_cons, List.not_mem_nil, or_false] at hv
  rcases hv with rfl <;> rfl
def te4 : TE := { td := .bool, sz := 1, by_ := 1, zs := [.bool false] }
theorem ok4 : OkT 4 te4 := by
  refine ⟨_, Try.t4, _, Try.underlying4, rfl, by kernel_rfl, rfl, rfl, rfl, rfl, fun μ H => ⟨rfl, trivial⟩, ?_⟩
  intro v hv
  simp only [Value.cells, List.mem_cons, List.not_mem_nil, or_false] at hv
  rcases hv with rfl <;> rfl
def te5 : TE := { td := .int .u8, sz := 1, by_ := 1, zs := [.int .u8 0] }
theorem ok5 : OkT 5 te5 := by
  refine ⟨_, Try.t5, _, Try.underlying5, rfl, by kernel_rfl, rfl, rfl, rfl, rfl, fun μ H => ⟨rfl, trivial⟩, ?_⟩
  intro v hv
  simp only [Value.cells, List.mem_cons, List.not_mem_nil, or_false] at hv
  rcases hv with rfl <;> rfl
def te21 : TE := { td := .int .i32, sz := 1, by_ := 4, zs := [.int .i32 0] }
theorem ok21 : OkT 21 te21 := by
  refine ⟨_, Try.t21, _, Try.underlying21, rfl, by kernel_rfl, rfl, rfl, rfl, rfl, fun μ H => ⟨rfl, trivial⟩, ?_⟩
  intro v hv
  simp only [Value.cells, List.mem_cons, List.not_mem_nil, or_false] at hv
  rcases hv with rfl <;> rfl
def te22 : TE := { td := .slice 5, sz := 1, by_ := 24, zs := [.nils] }
theorem ok22 : OkT 22 te22 := by
  refine ⟨_, Try.t22, _, Try.underlying22, rfl, by kernel_rfl, rfl, rfl, rfl, rfl, fun μ H => ⟨⟨none, rfl⟩, trivial⟩, ?_⟩
  intro v hv
  simp only [Value.cells, List.mem_cons, List.not_mem_nil, or_false] at hv
  rcases hv with rfl <;> rfl
def te23 : TE := { td := .other, sz := 1, by_ := 8, zs := [.junk] }
theorem ok23 : OkT 23 te23 := by
  refine ⟨_, Try.t23, _, Try.underlying23, ⟨(fun _ h => by cases h), (fun _ _ h => by cases h)⟩, by kernel_rfl, rfl, rfl, rfl, rfl, fun μ H => ⟨trivial, trivial⟩, ?_⟩
  intro v hv
  simp only [Value.cells, List.mem_cons, List.not_mem_nil, or_false] at hv
  rcases hv with rfl <;> rfl
def te24 : TE := { td := .slice 2, sz := 1, by_ := 24, zs := [.nils] }
theorem ok24 : OkT 24 te24 := by
  refine ⟨_, Try.t24, _, Try.underlying24, rfl, by kernel_rfl, rfl, rfl, rfl, rfl, fun μ H => ⟨⟨none, rfl⟩, trivial⟩, ?_⟩
  intro v hv
  simp only [Value.cells, List.mem_cons, List.not_mem_nil, or_false] at hv
  rcases hv with rfl <;> rfl
def te25 : TE := { td := .other, sz := 1, by_ := 8, zs := [.junk] }
theorem ok25 : OkT 25 te25 := by
  refine ⟨_, Try.t25, _, Try.underlying25, ⟨(fun _ h => by cases h), (fun _ _ h => by cases h)⟩, by kernel_rfl, rfl, rfl, rfl, rfl, fun μ H => ⟨trivial, trivial⟩, ?_⟩
  intro v hv
  simp only [Value.cells, List.mem_cons, List.not_mem_nil, or_false] at hv
  rcases hv with rfl <;> rfl
def te26 : TE := { td := .other, sz := 1, by_ := 8, zs := [.junk] }
theorem ok26 : OkT 26 te26 := by
  refine ⟨_, Try.t26, _, Try.underlying26, ⟨(fun _ h => by cases h), (fun _ _ h => by cases h)⟩, by kernel_rfl, rfl, rfl, rfl, rfl, fun μ H => ⟨trivial, trivial⟩, ?_⟩
  intro v hv
  simp only [Value.cells, List.mem_cons, List.not_mem_nil, or_false] at hv
  rcases hv with rfl <;> rfl
def te27 : TE := { td := .struct [(0, 2), (1, 24)], sz := 2, by_ := 32, zs := [.int .i64 0, .nils] }
theorem ok27 : OkT 27 te27 := by
  refine ⟨_, Try.t27, _, Try.underlying27, ⟨_, rfl, rfl⟩, by kernel_rfl, rfl, rfl, rfl, rfl, fun μ H => ⟨rfl, ⟨⟨none, rfl⟩, trivial⟩⟩, ?_⟩
  intro v hv
  simp only [Value.cells, List.mem_cons, List.not_mem_nil, or_false] at hv
  rcases hv with rfl | rfl <;> rfl
def te28 : TE := { td := .struct [(0, 2), (1, 24)], sz := 2, by_ := 32, zs := [.int .i64 0, .nils] }
theorem ok28 : OkT 28 te28 := by
  refine ⟨_, Try.t28, _, Try.underlying28, ⟨_, rfl, rfl⟩, by kernel_rfl, rfl, rfl, rfl, rfl, fun μ H => ⟨rfl, ⟨⟨none, rfl⟩, trivial⟩⟩, ?_⟩
  intro v hv
  simp only [Value.cells, List.mem_cons, List.not_mem_nil, or_false] at hv
  rcases hv with rfl | rfl <;> rfl
def te30 : TE := { td := .other, sz := 1, by_ := 8, zs := [.junk] }
theorem ok30 : OkT 30 te30 := by
  refine ⟨_, Try.t30, _, Try.underlying30, ⟨(fun _ h => by cases h), (fun _ _ h => by cases h)⟩, by kernel_rfl, rfl, rfl, rfl, rfl, fun μ H => ⟨trivial, trivial⟩, ?_⟩
  intro v hv
  simp only [Value.cells, List.mem_cons, List.not_mem_nil, or_false] at hv
  rcases hv with rfl <;> rfl
def te31 : TE := { td := .other, sz := 1, by_ := 8, zs := [.junk] }
theorem ok31 : OkT 31 te31 := by
  refine ⟨_, Try.t31, _, Try.underlying31, ⟨(fun _ h => by cases h), (fun _ _ h => by cases h)⟩, by kernel_rfl, rfl, rfl, rfl, rfl, fun μ H => ⟨trivial, trivial⟩, ?_⟩
  intro v hv
  simp only [Value.cells, List.mem_cons, List.not_mem_nil, or_false] at hv
  rcases hv with rfl <;> rfl
def te32 : TE := { td := .flt .f32, sz := 1, by_ := 4, zs := [.flt .f32 (some 0)] }
theorem ok32 : OkT 32 te32 := by
  refine ⟨_, Try.t32, _, Try.underlying32, rfl, by kernel_rfl, rfl, rfl, rfl, rfl, fun μ H => ⟨⟨0, rfl, can_f32_0⟩, trivial⟩, ?_⟩
  intro v hv
  simp only [Value.cells, List.mem_cons, List.not_mem_nil, or_false] at hv
  rcases hv with rfl <;> rfl
def te34 : TE := { td := .other, sz := 1, by_ := 8, zs := [.junk] }
theorem ok34 : OkT 34 te34 := by
  refine ⟨_, Try.t34, _, Try.underlying34, ⟨(fun _ h => by cases h), (fun _ _ h => by cases h)⟩, by kernel_rfl, rfl, rfl, rfl, rfl, fun μ H => ⟨trivial, trivial⟩, ?_⟩
  intro v hv
  simp only [Value.cells, List.mem_cons, List.not_mem_nil, or_false] at hv
  rcases hv with rfl <;> rfl
def te35 : TE := { td := .other, sz := 1, by_ := 8, zs := [.junk] }
theorem ok35 : OkT 35 te35 := by
  refine ⟨_, Try.t35, _, Try.underlying35, ⟨(fun _ h => by cases h), (fun _ _ h => by cases h)⟩, by kernel_rfl, rfl, rfl, rfl, rfl, fun μ H => ⟨trivial, trivial⟩, ?_⟩
  intro v hv
  simp only [Value.cells, List.mem_cons, List.not_mem_nil, or_false] at hv
  rcases hv with rfl <;> rfl
def te36 : TE := { td := .other, sz := 1, by_ := 8, zs := [.junk] }
theorem ok36 : OkT 36 te36 := by
  refine ⟨_, Try.t36, _, Try.underlying36, ⟨(fun _ h => by cases h), (fun _ _ h => by cases h)⟩, by kernel_rfl, rfl, rfl, rfl, rfl, fun μ H => ⟨trivial, trivial⟩, ?_⟩
  intro v hv
  simp only [Value.cells, List.mem_cons, List.not_mem_nil, or_false] at hv
  rcases hv with rfl <;> rfl
def te37 : TE := { td := .flt .f64, sz := 1, by_ := 8, zs := [.flt .f64 (some 0)] }
theorem ok37 : OkT 37 te37 := by
  refine ⟨_, Try.t37, _, Try.underlying37, rfl, by kernel_rfl, rfl, rfl, rfl, rfl, fun μ H => ⟨⟨0, rfl, can_f64_0⟩, trivial⟩, ?_⟩
  intro v hv
  simp only [Value.cells, List.mem_cons, List.not_mem_nil, or_false] at hv
  rcases hv with rfl <;> rfl
def te39 : TE := { td := .other, sz := 1, by_ := 8, zs := [.junk] }
theorem ok39 : OkT 39 te39 := by
  refine ⟨_, Try.t39, _, Try.underlying39, ⟨(fun _ h => by cases h), (fun _ _ h => by cases h)⟩, by kernel_rfl, rfl, rfl, rfl, rfl, fun μ H => ⟨trivial, trivial⟩, ?_⟩
  intro v hv
  simp only [Value.cells, List.mem_cons, List.not_mem_nil, or_false] at hv
  rcases hv with rfl <;> rfl
def te40 : TE := { td := .other, sz := 1, by_ := 8, zs := [.junk] }
theorem ok40 : OkT 40 te40 := by
  refine ⟨_, Try.t40, _, Try.underlying40, ⟨(fun _ h => by cases h), (fun _ _ h => by cases h)⟩, by kernel_rfl, rfl, rfl, rfl, rfl, fun μ H => ⟨trivial, trivial⟩, ?_⟩
  intro v hv
  simp only [Value.cells, List.mem_cons, List.not_mem_nil, or_false] at hv
  rcases hv with rfl <;> rfl
def te41 : TE := { td := .other, sz := 1, by_ := 8, zs := [.junk] }
theorem ok41 : OkT 41 te41 := by
  refine ⟨_, Try.t41, _, Try.underlying41, ⟨(fun _ h => by cases h), (fun _ _ h => by cases h)⟩, by kernel_rfl, rfl, rfl, rfl, rfl, fun μ H => ⟨trivial, trivial⟩, ?_⟩
  intro v hv
  simp only [Value.cells, List.mem_cons, List.not_mem_nil, or_false] at hv
  rcases hv with rfl <;> rfl
def te42 : TE := { td := .other, sz := 1, by_ := 8, zs := [.junk] }
theorem ok42 : OkT 42 te42 := by
  refine ⟨_, Try.t42, _, Try.underlying42, ⟨(fun _ h => by cases h), (fun _ _ h => by cases h)⟩, by kernel_rfl, rfl, rfl, rfl, rfl, fun μ H => ⟨trivial, trivial⟩, ?_⟩
  intro v hv
  simp only [Value.cells, List.mem_cons, List.not_mem_nil, or_false] at hv
  rcases hv with rfl <;> rfl
def te43 : TE := { td := .other, sz := 1, by_ := 8, zs := [.junk] }
theorem ok43 : OkT 43 te43 := by
  refine ⟨_, Try.t43, _, Try.underlying43, ⟨(fun _ h => by cases h), (fun _ _ h => by cases h)⟩, by kernel_rfl, rfl, rfl, rfl, rfl, fun μ H => ⟨trivial, trivial⟩, ?_⟩
  intro v hv
  simp only [Value.cells, List.mem_cons, List.not_mem_nil, or_false] at hv
  rcases hv with rfl <;> rfl
def te44 : TE := { td := .struct [(0, 2), (1, 24), (2, 24), (3, 24)], sz := 4, by_ := 80, zs := [.int .i64 0, .nils, .nils, .nils] }
theorem ok44 : OkT 44 te44 := by
  refine ⟨_, Try.t44, _, Try.underlying44, ⟨_, rfl, rfl⟩, by kernel_rfl, rfl, rfl, rfl, rfl, fun μ H => ⟨rfl, ⟨⟨none, rfl⟩, ⟨⟨none, rfl⟩, ⟨⟨none, rfl⟩, trivial⟩⟩⟩⟩, ?_⟩
  intro v hv
  simp only [Value.cells, List.mem_cons, List.not_mem_nil, or_false] at hv
  rcases hv with rfl | rfl | rfl | rfl <;> rfl
def te45 : TE := { td := .struct [(0, 2), (1, 24), (2, 24), (3, 24)], sz := 4, by_ := 80, zs := [.int .i64 0, .nils, .nils, .nils] }
theorem ok45 : OkT 45 te45 := by
  refine ⟨_, Try.t45, _, Try.underlying45, ⟨_, rfl, rfl⟩, by kernel_rfl, rfl, rfl, rfl, rfl, fun μ H => ⟨rfl, ⟨⟨none, rfl⟩, ⟨⟨none, rfl⟩, ⟨⟨none, rfl⟩, trivial⟩⟩⟩⟩, ?_⟩
  intro v hv
  simp only [Value.cells, List.mem_cons, List.not_mem_nil, or_false] at hv
  rcases hv with rfl | rfl | rfl | rfl <;> rfl
def te47 : TE := { td := .other, sz := 1, by_ := 8, zs := [.junk] }
theorem ok47 : OkT 47 te47 := by
  refine ⟨_, Try.t47, _, Try.underlying47, ⟨(fun _ h => by cases h), (fun _ _ h => by cases h)⟩, by kernel_rfl, rfl, rfl, rfl, rfl, fun μ H => ⟨trivial, trivial⟩, ?_⟩
  intro v hv
  simp only [Value.cells, List.mem_cons, List.not_mem_nil, or_false] at hv
  rcases hv with rfl <;> rfl
def te48 : TE := { td := .other, sz := 1, by_ := 8, zs := [.junk] }
theorem ok48 : OkT 48 te48 := by
  refine ⟨_, Try.t48, _, Try.underlying48, ⟨(fun _ h => by cases h), (fun _ _ h => by cases h)⟩, by kernel_rfl, rfl, rfl, rfl, rfl, fun μ H => ⟨trivial, trivial⟩, ?_⟩
  intro v hv
  simp only [Value.cells, List.mem_cons, List.not_mem_nil, or_false] at hv
  rcases hv with rfl <;> rfl
def te49 : TE := { td := .other, sz := 1, by_ := 8, zs := [.junk] }
theorem ok49 : OkT 49 te49 := by
  refine ⟨_, Try.t49, _, Try.underlying49, ⟨(fun _ h => by cases h), (fun _ _ h => by cases h)⟩, by kernel_rfl, rfl, rfl, rfl, rfl, fun μ H => ⟨trivial, trivial⟩, ?_⟩
  intro v hv
  simp only [Value.cells, List.mem_cons, List.not_mem_nil, or_false] at hv
  rcases hv with rfl <;> rfl
def te50 : TE := { td := .other, sz := 1, by_ := 8, zs := [.junk] }
theorem ok50 : OkT 50 te50 := by
  refine ⟨_, Try.t50, _, Try.underlying50, ⟨(fun _ h => by cases h), (fun _ _ h => by cases h)⟩, by kernel_rfl, rfl, rfl, rfl, rfl, fun μ H => ⟨trivial, trivial⟩, ?_⟩
  intro v hv
  simp only [Value.cells, List.mem_cons, List.not_mem_nil, or_false] at hv
  rcases hv with rfl <;> rfl
def te51 : TE := { td := .other, sz := 1, by_ := 8, zs := [.junk] }
theorem ok51 : OkT 51 te51 := by
  refine ⟨_, Try.t51, _, Try.underlying51, ⟨(fun _ h => by cases h), (fun _ _ h => by cases h)⟩, by kernel_rfl, rfl, rfl, rfl, rfl, fun μ H => ⟨trivial, trivial⟩, ?_⟩
  intro v hv
  simp only [Value.cells, List.mem_cons, List.not_mem_nil, or_false] at hv
  rcases hv with rfl <;> rfl
def te52 : TE := { td := .other, sz := 1, by_ := 8, zs := [.junk] }
theorem ok52 : OkT 52 te52 := by
  refine ⟨_, Try.t52, _, Try.underlying52, ⟨(fun _ h => by cases h), (fun _ _ h => by cases h)⟩, by kernel_rfl, rfl, rfl, rfl, rfl, fun μ H => ⟨trivial, trivial⟩, ?_⟩
  intro v hv
  simp only [Value.cells, List.mem_cons, List.not_mem_nil, or_false] at hv
  rcases hv with rfl <;> rfl
def te53 : TE := { td := .other, sz := 1, by_ := 8, zs := [.junk] }
theorem ok53 : OkT 53 te53 := by
  refine ⟨_, Try.t53, _, Try.underlying53, ⟨(fun _ h => by cases h), (fun _ _ h => by cases h)⟩, by kernel_rfl, rfl, rfl, rfl, rfl, fun μ H => ⟨trivial, trivial⟩, ?_⟩
  intro v hv
  simp only [Value.cells, List.mem_cons, List.not_mem_nil, or_false] at hv
  rcases hv with rfl <;> rfl
def te55 : TE := { td := .other, sz := 1, by_ := 8, zs := [.junk] }
theorem ok55 : OkT 55 te55 := by
  refine ⟨_, Try.t55, _, Try.underlying55, ⟨(fun _ h => by cases h), (fun _ _ h => by cases h)⟩, by kernel_rfl, rfl, rfl, rfl, rfl, fun μ H => ⟨trivial, trivial⟩, ?_⟩
  intro v hv
  simp only [Value.cells, List.mem_cons, List.not_mem_nil, or_false] at hv
  rcases hv with rfl <;> rfl
def te56 : TE := { td := .slice 32, sz := 1, by_ := 24, zs := [.nils] }
theorem ok56 : OkT 56 te56 := by
  refine ⟨_, Try.t56, _, Try.underlying56, rfl, by kernel_rfl, rfl, rfl, rfl, rfl, fun μ H => ⟨⟨none, rfl⟩, trivial⟩, ?_⟩
  intro v hv
  simp only [Value.cells, List.mem_cons, List.not_mem_nil, or_false] at hv
  rcases hv with rfl <;> rfl
def te57 : TE := { td := .other, sz := 1, by_ := 8, zs := [.junk] }
theorem ok57 : OkT 57 te57 := by
  refine ⟨_, Try.t57, _, Try.underlying57, ⟨(fun _ h => by cases h), (fun _ _ h => by cases h)⟩, by kernel_rfl, rfl, rfl, rfl, rfl, fun μ H => ⟨trivial, trivial⟩, ?_⟩
  intro v hv
  simp only [Value.cells, List.mem_cons, List.not_mem_nil, or_false] at hv
  rcases hv with rfl <;> rfl
def te59 : TE := { td := .other, sz := 1, by_ := 8, zs := [.junk] }
theorem ok59 : OkT 59 te59 := by
  refine ⟨_, Try.t59, _, Try.underlying59, ⟨(fun _ h => by cases h), (fun _ _ h => by cases h)⟩, by kernel_rfl, rfl, rfl, rfl, rfl, fun μ H => ⟨trivial, trivial⟩, ?_⟩
  intro v hv
  simp only [Value.cells, List.mem_cons, List.not_mem_nil, or_false] at hv
  rcases hv with rfl <;> rfl
def te60 : TE := { td := .other, sz := 1, by_ := 8, zs := [.junk] }
theorem ok60 : OkT 60 te60 := by
  refine ⟨_, Try.t60, _, Try.underlying60, ⟨(fun _ h => by cases h), (fun _ _ h => by cases h)⟩, by kernel_rfl, rfl, rfl, rfl, rfl, fun μ H => ⟨trivial, trivial⟩, ?_⟩
  intro v hv
  simp only [Value.cells, List.mem_cons, List.not_mem_nil, or_false] at hv
  rcases hv with rfl <;> rfl
def te61 : TE := { td := .other, sz := 1, by_ := 8, zs := [.junk] }
theorem ok61 : OkT 61 te61 := by
  refine ⟨_, Try.t61, _, Try.underlying61, ⟨(fun _ h => by cases h), (fun _ _ h => by cases h)⟩, by kernel_rfl, rfl, rfl, rfl, rfl, fun μ H => ⟨trivial, trivial⟩, ?_⟩
  intro v hv
  simp only [Value.cells, List.mem_cons, List.not_mem_nil, or_false] at hv
  rcases hv with rfl <;> rfl
def te62 : TE := { td := .slice 4, sz := 1, by_ := 24, zs := [.nils] }
theorem ok62 : OkT 62 te62 := by
  refine ⟨_, Try.t62, _, Try.underlying62, rfl, by kernel_rfl, rfl, rfl, rfl, rfl, fun μ H => ⟨⟨none, rfl⟩, trivial⟩, ?_⟩
  intro v hv
  simp only [Value.cells, List.mem_cons, List.not_mem_nil, or_false] at hv
  rcases hv with rfl <;> rfl
def te63 : TE := { td := .struct [(0, 2), (1, 2), (2, 62)], sz := 3, by_ := 40, zs := [.int .i64 0, .int .i64 0, .nils] }
theorem ok63 : OkT 63 te63 := by
  refine ⟨_, Try.t63, _, Try.underlying63, ⟨_, rfl, rfl⟩, by kernel_rfl, rfl, rfl, rfl, rfl, fun μ H => ⟨rfl, ⟨rfl, ⟨⟨none, rfl⟩, trivial⟩⟩⟩, ?_⟩
  intro v hv
  simp only [Value.cells, List.mem_cons, List.not_mem_nil, or_false] at hv
  rcases hv with rfl | rfl | rfl <;> rfl
def te64 : TE := { td := .struct [(0, 2), (1, 2), (2, 62)], sz := 3, by_ := 40, zs := [.int .i64 0, .int .i64 0, .nils] }
theorem ok64 : OkT 64 te64 := by
  refine ⟨_, Try.t64, _, Try.underlying64, ⟨_, rfl, rfl⟩, by kernel_rfl, rfl, rfl, rfl, rfl, fun μ H => ⟨rfl, ⟨rfl, ⟨⟨none, rfl⟩, trivial⟩⟩⟩, ?_⟩
  intro v hv
  simp only [Value.cells, List.mem_cons, List.not_mem_nil, or_false] at hv
  rcases hv with rfl | rfl | rfl <;> rfl
def te66 : TE := { td := .other, sz := 1, by_ := 8, zs := [.junk] }
theorem ok66 : OkT 66 te66 := by
  refine ⟨_, Try.t66, _, Try.underlying66, ⟨(fun _ h => by cases h), (fun _ _ h => by cases h)⟩, by kernel_rfl, rfl, rfl, rfl, rfl, fun μ H => ⟨trivial, trivial⟩, ?_⟩
  intro v hv
  simp only [Value.cells, List.mem_cons, List.not_mem_nil, or_false] at hv
  rcases hv with rfl <;> rfl
def te67 : TE := { td := .other, sz := 1, by_ := 8, zs := [.junk] }
theorem ok67 : OkT 67 te67 := by
  refine ⟨_, Try.t67, _, Try.underlying67, ⟨(fun _ h => by cases h), (fun _ _ h => by cases h)⟩, by kernel_rfl, rfl, rfl, rfl, rfl, fun μ H => ⟨trivial, trivial⟩, ?_⟩
  intro v hv
  simp only [Value.cells, List.mem_cons, List.not_mem_nil, or_false] at hv
  rcases hv with rfl <;> rfl
def te68 : TE := { td := .other, sz := 1, by_ := 8, zs := [.junk] }
theorem ok68 : OkT 68 te68 := by
  refine ⟨_, Try.t68, _, Try.underlying68, ⟨(fun _ h => by cases h), (fun _ _ h => by cases h)⟩, by kernel_rfl, rfl, rfl, rfl, rfl, fun μ H => ⟨trivial, trivial⟩, ?_⟩
  intro v hv
  simp only [Value.cells, List.mem_cons, List.not_mem_nil, or_false] at hv
  rcases hv with rfl <;> rfl
def te69 : TE := { td := .other, sz := 1, by_ := 8, zs := [.junk] }
theorem ok69 : OkT 69 te69 := by
  refine ⟨_, Try.t69, _, Try.underlying69, ⟨(fun _ h => by cases h), (fun _ _ h => by cases h)⟩, by kernel_rfl, rfl, rfl, rfl, rfl, fun μ H => ⟨trivial, trivial⟩, ?_⟩
  intro v hv
  simp only [Value.cells, List.mem_cons, List.not_mem_nil, or_false] at hv
  rcases hv with rfl <;> rfl
def te70 : TE := { td := .other, sz := 1, by_ := 8, zs := [.junk] }
theorem ok70 : OkT 70 te70 := by
  refine ⟨_, Try.t70, _, Try.underlying70, ⟨(fun _ h => by cases h), (fun _ _ h => by cases h)⟩, by kernel_rfl, rfl, rfl, rfl, rfl, fun μ H => ⟨trivial, trivial⟩, ?_⟩
  intro v hv
  simp only [Value.cells, List.mem_cons, List.not_mem_nil, or_false] at hv
  rcases hv with rfl <;> rfl
def te71 : TE := { td := .other, sz := 1, by_ := 8, zs := [.junk] }
theorem ok71 : OkT 71 te71 := by
  refine ⟨_, Try.t71, _, Try.underlying71, ⟨(fun _ h => by cases h), (fun _ _ h => by cases h)⟩, by kernel_rfl, rfl, rfl, rfl, rfl, fun μ H => ⟨trivial, trivial⟩, ?_⟩
  intro v hv
  simp only [Value.cells, List.mem_cons, List.not_mem_nil, or_false] at hv
  rcases hv with rfl <;> rfl
def te73 : TE := { td := .other, sz := 1, by_ := 8, zs := [.junk] }
theorem ok73 : OkT 73 te73 := by
  refine ⟨_, Try.t73, _, Try.underlying73, ⟨(fun _ h => by cases h), (fun _ _ h => by cases h)⟩, by kernel_rfl, rfl, rfl, rfl, rfl, fun μ H => ⟨trivial, trivial⟩, ?_⟩
  intro v hv
  simp only [Value.cells, List.mem_cons, List.not_mem_nil, or_false] at hv
  rcases hv with rfl <;> rfl
def te74 : TE := { td := .other, sz := 1, by_ := 8, zs := [.junk] }
theorem ok74 : OkT 74 te74 := by
  refine ⟨_, Try.t74, _, Try.underlying74, ⟨(fun _ h => by cases h), (fun _ _ h => by cases h)⟩, by kernel_rfl, rfl, rfl, rfl, rfl, fun μ H => ⟨trivial, trivial⟩, ?_⟩
  intro v hv
  simp only [Value.cells, List.mem_cons, List.not_mem_nil, or_false] at hv
  rcases hv with rfl <;> rfl
def te75 : TE := { td := .struct [(0, 2), (1, 2), (2, 24)], sz := 3, by_ := 40, zs := [.int .i64 0, .int .i64 0, .nils] }
theorem ok75 : OkT 75 te75 := by
  refine ⟨_, Try.t75, _, Try.underlying75, ⟨_, rfl, rfl⟩, by kernel_rfl, rfl, rfl, rfl, rfl, fun μ H => ⟨rfl, ⟨rfl, ⟨⟨none, rfl⟩, trivial⟩⟩⟩, ?_⟩
  intro v hv
  simp only [Value.cells, List.mem_cons, List.not_mem_nil, or_false] at hv
  rcases hv with rfl | rfl | rfl <;> rfl
def te76 : TE := { td := .struct [(0, 2), (1, 2), (2, 24)], sz := 3, by_ := 40, zs := [.int .i64 0, .int .i64 0, .nils] }
theorem ok76 : OkT 76 te76 := by
  refine ⟨_, Try.t76, _, Try.underlying76, ⟨_, rfl, rfl⟩, by kernel_rfl, rfl, rfl, rfl, rfl, fun μ H => ⟨rfl, ⟨rfl, ⟨⟨none, rfl⟩, trivial⟩⟩⟩, ?_⟩
  intro v hv
  simp only [Value.cells, List.mem_cons, List.not_mem_nil, or_false] at hv
  rcases hv with rfl | rfl | rfl <;> rfl
def te78 : TE := { td := .other, sz := 1, by_ := 8, zs := [.junk] }
theorem ok78 : OkT 78 te78 := by
  refine ⟨_, Try.t78, _, Try.underlying78, ⟨(fun _ h => by cases h), (fun _ _ h => by cases h)⟩, by kernel_rfl, rfl, rfl, rfl, rfl, fun μ H => ⟨trivial, trivial⟩, ?_⟩
  intro v hv
  simp only [Value.cells, List.mem_cons, List.not_mem_nil, or_false] at hv
  rcases hv with rfl <;> rfl
def te80 : TE := { td := .other, sz := 1, by_ := 8, zs := [.junk] }
theorem ok80 : OkT 80 te80 := by
  refine ⟨_, Try.t80, _, Try.underlying80, ⟨(fun _ h => by cases h), (fun _ _ h => by cases h)⟩, by kernel_rfl, rfl, rfl, rfl, rfl, fun μ H => ⟨trivial, trivial⟩, ?_⟩
  intro v hv
  simp only [Value.cells, List.mem_cons, List.not_mem_nil, or_false] at hv
  rcases hv with rfl <;> rfl
def te81 : TE := { td := .struct [(0, 2), (1, 56), (2, 24)], sz := 3, by_ := 56, zs := [.int .i64 0, .nils, .nils] }
theorem ok81 : OkT 81 te81 := by
  refine ⟨_, Try.t81, _, Try.underlying81, ⟨_, rfl, rfl⟩, by kernel_rfl, rfl, rfl, rfl, rfl, fun μ H => ⟨rfl, ⟨⟨none, rfl⟩, ⟨⟨none, rfl⟩, trivial⟩⟩⟩, ?_⟩
  intro v hv
  simp only [Value.cells, List.mem_cons, List.not_mem_nil, or_false] at hv
  rcases hv with rfl | rfl | rfl <;> rfl
def te82 : TE := { td := .struct [(0, 2), (1, 56), (2, 24)], sz := 3, by_ := 56, zs := [.int .i64 0, .nils, .nils] }
theorem ok82 : OkT 82 te82 := by
  refine ⟨_, Try.t82, _, Try.underlying82, ⟨_, rfl, rfl⟩, by kernel_rfl, rfl, rfl, rfl, rfl, fun μ H => ⟨rfl, ⟨⟨none, rfl⟩, ⟨⟨none, rfl⟩, trivial⟩⟩⟩, ?_⟩
  intro v hv
  simp only [Value.cells, List.mem_cons, List.not_mem_nil, or_false] at hv
  rcases hv with rfl | rfl | rfl <;> rfl
def te84 : TE := { td := .other, sz := 1, by_ := 8, zs := [.junk] }
theorem ok84 : OkT 84 te84 := by
  refine ⟨_, Try.t84, _, Try.underlying84, ⟨(fun _ h => by cases h), (fun _ _ h => by cases h)⟩, by kernel_rfl, rfl, rfl, rfl, rfl, fun μ H => ⟨trivial, trivial⟩, ?_⟩
  intro v hv
  simp only [Value.cells, List.mem_cons, List.not_mem_nil, or_false] at hv
  rcases hv with rfl <;> rfl
def te85 : TE := { td := .other, sz := 1, by_ := 8, zs := [.junk] }
theorem ok85 : OkT 85 te85 := by
  refine ⟨_, Try.t85, _, Try.underlying85, ⟨(fun _ h => by cases h), (fun _ _ h => by cases h)⟩, by kernel_rfl, rfl, rfl, rfl, rfl, fun μ H => ⟨trivial, trivial⟩, ?_⟩
  intro v hv
  simp only [Value.cells, List.mem_cons, List.not_mem_nil, or_false] at hv
  rcases hv with rfl <;> rfl
def te86 : TE := { td := .other, sz := 1, by_ := 8, zs := [.junk] }
theorem ok86 : OkT 86 te86 := by
  refine ⟨_, Try.t86, _, Try.underlying86, ⟨(fun _ h => by cases h), (fun _ _ h => by cases h)⟩, by kernel_rfl, rfl, rfl, rfl, rfl, fun μ H => ⟨trivial, trivial⟩, ?_⟩
  intro v hv
  simp only [Value.cells, List.mem_cons, List.not_mem_nil, or_false] at hv
  rcases hv with rfl <;> rfl
def te87 : TE := { td := .other, sz := 1, by_ := 8, zs := [.junk] }
theorem ok87 : OkT 87 te87 := by
  refine ⟨_, Try.t87, _, Try.underlying87, ⟨(fun _ h => by cases h), (fun _ _ h => by cases h)⟩, by kernel_rfl, rfl, rfl, rfl, rfl, fun μ H => ⟨trivial, trivial⟩, ?_⟩
  intro v hv
  simp only [Value.cells, List.mem_cons, List.not_mem_nil, or_false] at hv
  rcases hv with rfl <;> rfl
def te88 : TE := { td := .slice 56, sz := 1, by_ := 24, zs := [.nils] }
theorem ok88 : OkT 88 te88 := by
  refine ⟨_, Try.t88, _, Try.underlying88, rfl, by kernel_rfl, rfl, rfl, rfl, rfl, fun μ H => ⟨⟨none, rfl⟩, trivial⟩, ?_⟩
  intro v hv
  simp only [Value.cells, List.mem_cons, List.not_mem_nil, or_false] at hv
  rcases hv with rfl <;> rfl
def te89 : TE := { td := .struct [(0, 2), (1, 2), (2, 88)], sz := 3, by_ := 40, zs := [.int .i64 0, .int .i64 0, .nils] }
theorem ok89 : OkT 89 te89 := by
  refine ⟨_, Try.t89, _, Try.underlying89, ⟨_, rfl, rfl⟩, by kernel_rfl, rfl, rfl, rfl, rfl, fun μ H => ⟨rfl, ⟨rfl, ⟨⟨none, rfl⟩, trivial⟩⟩⟩, ?_⟩
  intro v hv
  simp only [Value.cells, List.mem_cons, List.not_mem_nil, or_false] at hv
  rcases hv with rfl | rfl | rfl <;> rfl
def te90 : TE := { td := .struct [(0, 2), (1, 2), (2, 88)], sz := 3, by_ := 40, zs := [.int .i64 0, .int .i64 0, .nils] }
theorem ok90 : OkT 90 te90 := by
  refine ⟨_, Try.t90, _, Try.underlying90, ⟨_, rfl, rfl⟩, by kernel_rfl, rfl, rfl, rfl, rfl, fun μ H => ⟨rfl, ⟨rfl, ⟨⟨none, rfl⟩, trivial⟩⟩⟩, ?_⟩
  intro v hv
  simp only [Value.cells, List.mem_cons, List.not_mem_nil, or_false] at hv
  rcases hv with rfl | rfl | rfl <;> rfl
def te91 : TE := { td := .other, sz := 1, by_ := 8, zs := [.junk] }
theorem ok91 : OkT 91 te91 := by
  refine ⟨_, Try.t91, _, Try.underlying91, ⟨(fun _ h => by cases h), (fun _ _ h => by cases h)⟩, by kernel_rfl, rfl, rfl, rfl, rfl, fun μ H => ⟨trivial, trivial⟩, ?_⟩
  intro v hv
  simp only [Value.cells, List.mem_cons, List.not_mem_nil, or_false] at hv
  rcases hv with rfl <;> rfl
def te92 : TE := { td := .struct [(0, 2), (1, 2), (2, 88)], sz := 3, by_ := 40, zs := [.int .i64 0, .int .i64 0, .nils] }
theorem ok92 : OkT 92 te92 := by
  refine ⟨_, Try.t92, _, Try.underlying92, ⟨_, rfl, rfl⟩, by kernel_rfl, rfl, rfl, rfl, rfl, fun μ H => ⟨rfl, ⟨rfl, ⟨⟨none, rfl⟩, trivial⟩⟩⟩, ?_⟩
  intro v hv
  simp only [Value.cells, List.mem_cons, List.not_mem_nil, or_false] at hv
  rcases hv with rfl | rfl | rfl <;> rfl
def te94 : TE := { td := .other, sz := 1, by_ := 8, zs := [.junk] }
theorem ok94 : OkT 94 te94 := by
  refine ⟨_, Try.t94, _, Try.underlying94, ⟨(fun _ h => by cases h), (fun _ _ h => by cases h)⟩, by kernel_rfl, rfl, rfl, rfl, rfl, fun μ H => ⟨trivial, trivial⟩, ?_⟩
  intro v hv
  simp only [Value.cells, List.mem_cons, List.not_mem_nil, or_false] at hv
  rcases hv with rfl <;> rfl
def te95 : TE := { td := .other, sz := 1, by_ := 8, zs := [.junk] }
theorem ok95 : OkT 95 te95 := by
  refine ⟨_, Try.t95, _, Try.underlying95, ⟨(fun _ h => by cases h), (fun _ _ h => by cases h)⟩, by kernel_rfl, rfl, rfl, rfl, rfl, fun μ H => ⟨trivial, trivial⟩, ?_⟩
  intro v hv
  simp only [Value.cells, List.mem_cons, List.not_mem_nil, or_false] at hv
  rcases hv with rfl <;> rfl
def te96 : TE := { td := .other, sz := 1, by_ := 8, zs := [.junk] }
theorem ok96 : OkT 96 te96 := by
  refine ⟨_, Try.t96, _, Try.underlying96, ⟨(fun _ h => by cases h), (fun _ _ h => by cases h)⟩, by kernel_rfl, rfl, rfl, rfl, rfl, fun μ H => ⟨trivial, trivial⟩, ?_⟩
  intro v hv
  simp only [Value.cells, List.mem_cons, List.not_mem_nil, or_false] at hv
  rcases hv with rfl <;> rfl
def te97 : TE := { td := .other, sz := 1, by_ := 8, zs := [.junk] }
theorem ok97 : OkT 97 te97 := by
  refine ⟨_, Try.t97, _, Try.underlying97, ⟨(fun _ h => by cases h), (fun _ _ h => by cases h)⟩, by kernel_rfl, rfl, rfl, rfl, rfl, fun μ H => ⟨trivial, trivial⟩, ?_⟩
  intro v hv
  simp only [Value.cells, List.mem_cons, List.not_mem_nil, or_false] at hv
  rcases hv with rfl <;> rfl
def te98 : TE := { td := .other, sz := 1, by_ := 8, zs := [.junk] }
theorem ok98 : OkT 98 te98 := by
  refine ⟨_, Try.t98, _, Try.underlying98, ⟨(fun _ h => by cases h), (fun _ _ h => by cases h)⟩, by kernel_rfl, rfl, rfl, rfl, rfl, fun μ H => ⟨trivial, trivial⟩, ?_⟩
  intro v hv
  simp only [Value.cells, List.mem_cons, List.not_mem_nil, or_false] at hv
  rcases hv with rfl <;> rfl
def te99 : TE := { td := .other, sz := 1, by_ := 8, zs := [.junk] }
theorem ok99 : OkT 99 te99 := by
  refine ⟨_, Try.t99, _, Try.underlying99, ⟨(fun _ h => by cases h), (fun _ _ h => by cases h)⟩, by kernel_rfl, rfl, rfl, rfl, rfl, fun μ H => ⟨trivial, trivial⟩, ?_⟩
  intro v hv
  simp only [Value.cells, List.mem_cons, List.not_mem_nil, or_false] at hv
  rcases hv with rfl <;> rfl
def te100 : TE := { td := .other, sz := 1, by_ := 8, zs := [.junk] }
theorem ok100 : OkT 100 te100 := by
  refine ⟨_, Try.t100, _, Try.underlying100, ⟨(fun _ h => by cases h), (fun _ _ h => by cases h)⟩, by kernel_rfl, rfl, rfl, rfl, rfl, fun μ H => ⟨trivial, trivial⟩, ?_⟩
  intro v hv
  simp only [Value.cells, List.mem_cons, List.not_mem_nil, or_false] at hv
  rcases hv with rfl <;> rfl
def te101 : TE := { td := .other, sz := 1, by_ := 8, zs := [.junk] }
theorem ok101 : OkT 101 te101 := by
  refine ⟨_, Try.t101, _, Try.underlying101, ⟨(fun _ h => by cases h), (fun _ _ h => by cases h)⟩, by kernel_rfl, rfl, rfl, rfl, rfl, fun μ H => ⟨trivial, trivial⟩, ?_⟩
  intro v hv
  simp only [Value.cells, List.mem_cons, List.not_mem_nil, or_false] at hv
  rcases hv with rfl <;> rfl
def te102 : TE := { td := .other, sz := 1, by_ := 8, zs := [.junk] }
theorem ok102 : OkT 102 te102 := by
  refine ⟨_, Try.t102, _, Try.underlying102, ⟨(fun _ h => by cases h), (fun _ _ h => by cases h)⟩, by kernel_rfl, rfl, rfl, rfl, rfl, fun μ H => ⟨trivial, trivial⟩, ?_⟩
  intro v hv
  simp only [Value.cells, List.mem_cons, List.not_mem_nil, or_false] at hv
  rcases hv with rfl <;> rfl
def te103 : TE := { td := .other, sz := 1, by_ := 8, zs := [.junk] }
theorem ok103 : OkT 103 te103 := by
  refine ⟨_, Try.t103, _, Try.underlying103, ⟨(fun _ h => by cases h), (fun _ _ h => by cases h)⟩, by kernel_rfl, rfl, rfl, rfl, rfl, fun μ H => ⟨trivial, trivial⟩, ?_⟩
  intro v hv
  simp only [Value.cells, List.mem_cons, List.not_mem_nil, or_false] at hv
  rcases hv with rfl <;> rfl
def te104 : TE := { td := .other, sz := 1, by_ := 8, zs := [.junk] }
theorem ok104 : OkT 104 te104 := by
  refine ⟨_, Try.t104, _, Try.underlying104, ⟨(fun _ h => by cases h), (fun _ _ h => by cases h)⟩, by kernel_rfl, rfl, rfl, rfl, rfl, fun μ H => ⟨trivial, trivial⟩, ?_⟩
  intro v hv
  simp only [Value.cells, List.mem_cons, List.not_mem_nil, or_false] at hv
  rcases hv with rfl <;> rfl
def te105 : TE := { td := .other, sz := 1, by_ := 8, zs := [.junk] }
theorem ok105 : OkT 105 te105 := by
  refine ⟨_, Try.t105, _, Try.underlying105, ⟨(fun _ h => by cases h), (fun _ _ h => by cases h)⟩, by kernel_rfl, rfl, rfl, rfl, rfl, fun μ H => ⟨trivial, trivial⟩, ?_⟩
  intro v hv
  simp only [Value.cells, List.mem_cons, List.not_mem_nil, or_false] at hv
  rcases hv with rfl <;> rfl
def te106 : TE := { td := .struct [(0, 2), (1, 24)], sz := 2, by_ := 32, zs := [.int .i64 0, .nils] }
theorem ok106 : OkT 106 te106 := by
  refine ⟨_, Try.t106, _, Try.underlying106, ⟨_, rfl, rfl⟩, by kernel_rfl, rfl, rfl, rfl, rfl, fun μ H => ⟨rfl, ⟨⟨none, rfl⟩, trivial⟩⟩, ?_⟩
  intro v hv
  simp only [Value.cells, List.mem_cons, List.not_mem_nil, or_false] at hv
  rcases hv with rfl | rfl <;> rfl
def te108 : TE := { td := .other, sz := 1, by_ := 8, zs := [.junk] }
theorem ok108 : OkT 108 te108 := by
  refine ⟨_, Try.t108, _, Try.underlying108, ⟨(fun _ h => by cases h), (fun _ _ h => by cases h)⟩, by kernel_rfl, rfl, rfl, rfl, rfl, fun μ H => ⟨trivial, trivial⟩, ?_⟩
  intro v hv
  simp only [Value.cells, List.mem_cons, List.not_mem_nil, or_false] at hv
  rcases hv with rfl <;> rfl
def te109 : TE := { td := .other, sz := 1, by_ := 8, zs := [.junk] }
theorem ok109 : OkT 109 te109 := by
  refine ⟨_, Try.t109, _, Try.underlying109, ⟨(fun _ h => by cases h), (fun _ _ h => by cases h)⟩, by kernel_rfl, rfl, rfl, rfl, rfl, fun μ H => ⟨trivial, trivial⟩, ?_⟩
  intro v hv
  simp only [Value.cells, List.mem_cons, List.not_mem_nil, or_false] at hv
  rcases hv with rfl <;> rfl
def te110 : TE := { td := .other, sz := 1, by_ := 8, zs := [.junk] }
theorem ok110 : OkT 110 te110 := by
  refine ⟨_, Try.t110, _, Try.underlying110, ⟨(fun _ h => by cases h), (fun _ _ h => by cases h)⟩, by kernel_rfl, rfl, rfl, rfl, rfl, fun μ H => ⟨trivial, trivial⟩, ?_⟩
  intro v hv
  simp only [Value.cells, List.mem_cons, List.not_mem_nil, or_false] at hv
  rcases hv with rfl <;> rfl
def te111 : TE := { td := .other, sz := 1, by_ := 8, zs := [.junk] }
theorem ok111 : OkT 111 te111 := by
  refine ⟨_, Try.t111, _, Try.underlying111, ⟨(fun _ h => by cases h), (fun _ _ h => by cases h)⟩, by kernel_rfl, rfl, rfl, rfl, rfl, fun μ H => ⟨trivial, trivial⟩, ?_⟩
  intro v hv
  simp only [Value.cells, List.mem_cons, List.not_mem_nil, or_false] at hv
  rcases hv with rfl <;> rfl
def te112 : TE := { td := .other, sz := 1, by_ := 8, zs := [.junk] }
theorem ok112 : OkT 112 te112 := by
  refine ⟨_, Try.t112, _, Try.underlying112, ⟨(fun _ h => by cases h), (fun _ _ h => by cases h)⟩, by kernel_rfl, rfl, rfl, rfl, rfl, fun μ H => ⟨trivial, trivial⟩, ?_⟩
  intro v hv
  simp only [Value.cells, List.mem_cons, List.not_mem_nil, or_false] at hv
  rcases hv with rfl <;> rfl
def te113 : TE := { td := .other, sz := 1, by_ := 8, zs := [.junk] }
theorem ok113 : OkT 113 te113 := by
  refine ⟨_, Try.t113, _, Try.underlying113, ⟨(fun _ h => by cases h), (fun _ _ h => by cases h)⟩, by kernel_rfl, rfl, rfl, rfl, rfl, fun μ H => ⟨trivial, trivial⟩, ?_⟩
  intro v hv
  simp only [Value.cells, List.mem_cons, List.not_mem_nil, or_false] at hv
  rcases hv with rfl <;> rfl
def te114 : TE := { td := .other, sz := 1, by_ := 8, zs := [.junk] }
theorem ok114 : OkT 114 te114 := by
  refine ⟨_, Try.t114, _, Try.underlying114, ⟨(fun _ h => by cases h), (fun _ _ h => by cases h)⟩, by kernel_rfl, rfl, rfl, rfl, rfl, fun μ H => ⟨trivial, trivial⟩, ?_⟩
  intro v hv
  simp only [Value.cells, List.mem_cons, List.not_mem_nil, or_false] at hv
  rcases hv with rfl <;> rfl
def te115 : TE := { td := .ptr 197, sz := 1, by_ := 8, zs := [.junk] }
theorem ok115 : OkT 115 te115 := by
  refine ⟨_, Try.t115, _, Try.underlying115, rfl, by kernel_rfl, rfl, rfl, rfl, rfl, fun μ H => ⟨trivial, trivial⟩, ?_⟩
  intro v hv
  simp only [Value.cells, List.mem_cons, List.not_mem_nil, or_false] at hv
  rcases hv with rfl <;> rfl
def te116 : TE := { td := .other, sz := 1, by_ := 8, zs := [.junk] }
theorem ok116 : OkT 116 te116 := by
  refine ⟨_, Try.t116, _, Try.underlying116, ⟨(fun _ h => by cases h), (fun _ _ h => by cases h)⟩, by kernel_rfl, rfl, rfl, rfl, rfl, fun μ H => ⟨trivial, trivial⟩, ?_⟩
  intro v hv
  simp only [Value.cells, List.mem_cons, List.not_mem_nil, or_false] at hv
  rcases hv with rfl <;> rfl
def te117 : TE := { td := .other, sz := 1, by_ := 8, zs := [.junk] }
theorem ok117 : OkT 117 te117 := by
  refine ⟨_, Try.t117, _, Try.underlying117, ⟨(fun _ h => by cases h), (fun _ _ h => by cases h)⟩, by kernel_rfl, rfl, rfl, rfl, rfl, fun μ H => ⟨trivial, trivial⟩, ?_⟩
  intro v hv
  simp only [Value.cells, List.mem_cons, List.not_mem_nil, or_false] at hv
  rcases hv with rfl <;> rfl
def te118 : TE := { td := .other, sz := 1, by_ := 8, zs := [.junk] }
theorem ok118 : OkT 118 te118 := by
  refine ⟨_, Try.t118, _, Try.underlying118, ⟨(fun _ h => by cases h), (fun _ _ h => by cases h)⟩, by kernel_rfl, rfl, rfl, rfl, rfl, fun μ H => ⟨trivial, trivial⟩, ?_⟩
  intro v hv
  simp only [Value.cells, List.mem_cons, List.not_mem_nil, or_false] at hv
  rcases hv with rfl <;> rfl
def te119 : TE := { td := .other, sz := 1, by_ := 8, zs := [.junk] }
theorem ok119 : OkT 119 te119 := by
  refine ⟨_, Try.t119, _, Try.underlying119, ⟨(fun _ h => by cases h), (fun _ _ h => by cases h)⟩, by kernel_rfl, rfl, rfl, rfl, rfl, fun μ H => ⟨trivial, trivial⟩, ?_⟩
  intro v hv
  simp only [Value.cells, List.mem_cons, List.not_mem_nil, or_false] at hv
  rcases hv with rfl <;> rfl
def te120 : TE := { td := .other, sz := 1, by_ := 8, zs := [.junk] }
theorem ok120 : OkT 120 te120 := by
  refine ⟨_, Try.t120, _, Try.underlying120, ⟨(fun _ h => by cases h), (fun _ _ h => by cases h)⟩, by kernel_rfl, rfl, rfl, rfl, rfl, fun μ H => ⟨trivial, trivial⟩, ?_⟩
  intro v hv
  simp only [Value.cells, List.mem_cons, List.not_mem_nil, or_false] at hv
  rcases hv with rfl <;> rfl
def te121 : TE := { td := .other, sz := 1, by_ := 8, zs := [.junk] }
theorem ok121 : OkT 121 te121 := by
  refine ⟨_, Try.t121, _, Try.underlying121, ⟨(fun _ h => by cases h), (fun _ _ h => by cases h)⟩, by kernel_rfl, rfl, rfl, rfl, rfl, fun μ H => ⟨trivial, trivial⟩, ?_⟩
  intro v hv
  simp only [Value.cells, List.mem_cons, List.not_mem_nil, or_false] at hv
  rcases hv with rfl <;> rfl
def te122 : TE := { td := .other, sz := 1, by_ := 8, zs := [.junk] }
theorem ok122 : OkT 122 te122 := by
  refine ⟨_, Try.t122, _, Try.underlying122, ⟨(fun _ h => by cases h), (fun _ _ h => by cases h)⟩, by kernel_rfl, rfl, rfl, rfl, rfl, fun μ H => ⟨trivial, trivial⟩, ?_⟩
  intro v hv
  simp only [Value.cells, List.mem_cons, List.not_mem_nil, or_false] at hv
  rcases hv with rfl <;> rfl
def te123 : TE := { td := .other, sz := 1, by_ := 8, zs := [.junk] }
theorem ok123 : OkT 123 te123 := by
  refine ⟨_, Try.t123, _, Try.underlying123, ⟨(fun _ h => by cases h), (fun _ _ h => by cases h)⟩, by kernel_rfl, rfl, rfl, rfl, rfl, fun μ H => ⟨trivial, trivial⟩, ?_⟩
  intro v hv
  simp only [Value.cells, List.mem_cons, List.not_mem_nil, or_false] at hv
  rcases hv with rfl <;> rfl
def te124 : TE := { td := .other, sz := 1, by_ := 8, zs := [.junk] }
theorem ok124 : OkT 124 te124 := by
  refine ⟨_, Try.t124, _, Try.underlying124, ⟨(fun _ h => by cases h), (fun _ _ h => by cases h)⟩, by kernel_rfl, rfl, rfl, rfl, rfl, fun μ H => ⟨trivial, trivial⟩, ?_⟩
  intro v hv
  simp only [Value.cells, List.mem_cons, List.not_mem_nil, or_false] at hv
  rcases hv with rfl <;> rfl
def te125 : TE := { td := .other, sz := 1, by_ := 8, zs := [.junk] }
theorem ok125 : OkT 125 te125 := by
  refine ⟨_, Try.t125, _, Try.underlying125, ⟨(fun _ h => by cases h), (fun _ _ h => by cases h)⟩, by kernel_rfl, rfl, rfl, rfl, rfl, fun μ H => ⟨trivial, trivial⟩, ?_⟩
  intro v hv
  simp only [Value.cells, List.mem_cons, List.not_mem_nil, or_false] at hv
  rcases hv with rfl <;> rfl
def te126 : TE := { td := .other, sz := 1, by_ := 8, zs := [.junk] }
theorem ok126 : OkT 126 te126 := by
  refine ⟨_, Try.t126, _, Try.underlying126, ⟨(fun _ h => by cases h), (fun _ _ h => by cases h)⟩, by kernel_rfl, rfl, rfl, rfl, rfl, fun μ H => ⟨trivial, trivial⟩, ?_⟩
  intro v hv
  simp only [Value.cells, List.mem_cons, List.not_mem_nil, or_false] at hv
  rcases hv with rfl <;> rfl
def te127 : TE := { td := .other, sz := 1, by_ := 8, zs := [.junk] }
theorem ok127 : OkT 127 te127 := by
  refine ⟨_, Try.t127, _, Try.underlying127, ⟨(fun _ h => by cases h), (fun _ _ h => by cases h)⟩, by kernel_rfl, rfl, rfl, rfl, rfl, fun μ H => ⟨trivial, trivial⟩, ?_⟩
  intro v hv
  simp only [Value.cells, List.mem_cons, List.not_mem_nil, or_false] at hv
  rcases hv with rfl <;> rfl
def te128 : TE := { td := .other, sz := 1, by_ := 8, zs := [.junk] }
theorem ok128 : OkT 128 te128 := by
  refine ⟨_, Try.t128, _, Try.underlying128, ⟨(fun _ h => by cases h), (fun _ _ h => by cases h)⟩, by kernel_rfl, rfl, rfl, rfl, rfl, fun μ H => ⟨trivial, trivial⟩, ?_⟩
  intro v hv
  simp only [Value.cells, List.mem_cons, List.not_mem_nil, or_false] at hv
  rcases hv with rfl <;> rfl
def te129 : TE := { td := .other, sz := 1, by_ := 8, zs := [.junk] }
theorem ok129 : OkT 129 te129 := by
  refine ⟨_, Try.t129, _, Try.underlying129, ⟨(fun _ h => by cases h), (fun _ _ h => by cases h)⟩, by kernel_rfl, rfl, rfl, rfl, rfl, fun μ H => ⟨trivial, trivial⟩, ?_⟩
  intro v hv
  simp only [Value.cells, List.mem_cons, List.not_mem_nil, or_false] at hv
  rcases hv with rfl <;> rfl
def te131 : TE := { td := .other, sz := 1, by_ := 8, zs := [.junk] }
theorem ok131 : OkT 131 te131 := by
  refine ⟨_, Try.t131, _, Try.underlying131, ⟨(fun _ h => by cases h), (fun _ _ h => by cases h)⟩, by kernel_rfl, rfl, rfl, rfl, rfl, fun μ H => ⟨trivial, trivial⟩, ?_⟩
  intro v hv
  simp only [Value.cells, List.mem_cons, List.not_mem_nil, or_false] at hv
  rcases hv with rfl <;> rfl
def te132 : TE := { td := .other, sz := 1, by_ := 8, zs := [.junk] }
theorem ok132 : OkT 132 te132 := by
  refine ⟨_, Try.t132, _, Try.underlying132, ⟨(fun _ h => by cases h), (fun _ _ h => by cases h)⟩, by kernel_rfl, rfl, rfl, rfl, rfl, fun μ H => ⟨trivial, trivial⟩, ?_⟩
  intro v hv
  simp only [Value.cells, List.mem_cons, List.not_mem_nil, or_false] at hv
  rcases hv with rfl <;> rfl
def te133 : TE := { td := .other, sz := 1, by_ := 8, zs := [.junk] }
theorem ok133 : OkT 133 te133 := by
  refine ⟨_, Try.t133, _, Try.underlying133, ⟨(fun _ h => by cases h), (fun _ _ h => by cases h)⟩, by kernel_rfl, rfl, rfl, rfl, rfl, fun μ H => ⟨trivial, trivial⟩, ?_⟩
  intro v hv
  simp only [Value.cells, List.mem_cons, List.not_mem_nil, or_false] at hv
  rcases hv with rfl <;> rfl
def te134 : TE := { td := .other, sz := 1, by_ := 8, zs := [.junk] }
theorem ok134 : OkT 134 te134 := by
  refine ⟨_, Try.t134, _, Try.underlying134, ⟨(fun _ h => by cases h), (fun _ _ h => by cases h)⟩, by kernel_rfl, rfl, rfl, rfl, rfl, fun μ H => ⟨trivial, trivial⟩, ?_⟩
  intro v hv
  simp only [Value.cells, List.mem_cons, List.not_mem_nil, or_false] at hv
  rcases hv with rfl <;> rfl
def te135 : TE := { td := .other, sz := 1, by_ := 8, zs := [.junk] }
theorem ok135 : OkT 135 te135 := by
  refine ⟨_, Try.t135, _, Try.underlying135, ⟨(fun _ h => by cases h), (fun _ _ h => by cases h)⟩, by kernel_rfl, rfl, rfl, rfl, rfl, fun μ H => ⟨trivial, trivial⟩, ?_⟩
  intro v hv
  simp only [Value.cells, List.mem_cons, List.not_mem_nil, or_false] at hv
  rcases hv with rfl <;> rfl
def te136 : TE := { td := .other, sz := 1, by_ := 8, zs := [.junk] }
theorem ok136 : OkT 136 te136 := by
  refine ⟨_, Try.t136, _, Try.underlying136, ⟨(fun _ h => by cases h), (fun _ _ h => by cases h)⟩, by kernel_rfl, rfl, rfl, rfl, rfl, fun μ H => ⟨trivial, trivial⟩, ?_⟩
  intro v hv
  simp only [Value.cells, List.mem_cons, List.not_mem_nil, or_false] at hv
  rcases hv with rfl <;> rfl
def te137 : TE := { td := .other, sz := 1, by_ := 8, zs := [.junk] }
theorem ok137 : OkT 137 te137 := by
  refine ⟨_, Try.t137, _, Try.underlying137, ⟨(fun _ h => by cases h), (fun _ _ h => by cases h)⟩, by kernel_rfl, rfl, rfl, rfl, rfl, fun μ H => ⟨trivial, trivial⟩, ?_⟩
  intro v hv
  simp only [Value.cells, List.mem_cons, List.not_mem_nil, or_false] at hv
  rcases hv with rfl <;> rfl
def te138 : TE := { td := .ptr 45, sz := 1, by_ := 8, zs := [.junk] }
theorem ok138 : OkT 138 te138 := by
  refine ⟨_, Try.t138, _, Try.underlying138, rfl, by kernel_rfl, rfl, rfl, rfl, rfl, fun μ H => ⟨trivial, trivial⟩, ?_⟩
  intro v hv
  simp only [Value.cells, List.mem_cons, List.not_mem_nil, or_false] at hv
  rcases hv with rfl <;> rfl
def te139 : TE := { td := .other, sz := 1, by_ := 8, zs := [.junk] }
theorem ok139 : OkT 139 te139 := by
  refine ⟨_, Try.t139, _, Try.underlying139, ⟨(fun _ h => by cases h), (fun _ _ h => by cases h)⟩, by kernel_rfl, rfl, rfl, rfl, rfl, fun μ H => ⟨trivial, trivial⟩, ?_⟩
  intro v hv
  simp only [Value.cells, List.mem_cons, List.not_mem_nil, or_false] at hv
  rcases hv with rfl <;> rfl
def te140 : TE := { td := .other, sz := 1, by_ := 8, zs := [.junk] }
theorem ok140 : OkT 140 te140 := by
  refine ⟨_, Try.t140, _, Try.underlying140, ⟨(fun _ h => by cases h), (fun _ _ h => by cases h)⟩, by kernel_rfl, rfl, rfl, rfl, rfl, fun μ H => ⟨trivial, trivial⟩, ?_⟩
  intro v hv
  simp only [Value.cells, List.mem_cons, List.not_mem_nil, or_false] at hv
  rcases hv with rfl <;> rfl
def te141 : TE := { td := .slice 142, sz := 1, by_ := 24, zs := [.nils] }
theorem ok141 : OkT 141 te141 := by
  refine ⟨_, Try.t141, _, Try.underlying141, rfl, by kernel_rfl, rfl, rfl, rfl, rfl, fun μ H => ⟨⟨none, rfl⟩, trivial⟩, ?_⟩
  intro v hv
  simp only [Value.cells, List.mem_cons, List.not_mem_nil, or_false] at hv
  rcases hv with rfl <;> rfl
def te142 : TE := { td := .slice 3, sz := 1, by_ := 24, zs := [.nils] }
theorem ok142 : OkT 142 te142 := by
  refine ⟨_, Try.t142, _, Try.underlying142, rfl, by kernel_rfl, rfl, rfl, rfl, rfl, fun μ H => ⟨⟨none, rfl⟩, trivial⟩, ?_⟩
  intro v hv
  simp only [Value.cells, List.mem_cons, List.not_mem_nil, or_false] at hv
  rcases hv with rfl <;> rfl
def te143 : TE := { td := .other, sz := 1, by_ := 8, zs := [.junk] }
theorem ok143 : OkT 143 te143 := by
  refine ⟨_, Try.t143, _, Try.underlying143, ⟨(fun _ h => by cases h), (fun _ _ h => by cases h)⟩, by kernel_rfl, rfl, rfl, rfl, rfl, fun μ H => ⟨trivial, trivial⟩, ?_⟩
  intro v hv
  simp only [Value.cells, List.mem_cons, List.not_mem_nil, or_false] at hv
  rcases hv with rfl <;> rfl
def te144 : TE := { td := .other, sz := 1, by_ := 8, zs := [.junk] }
theorem ok144 : OkT 144 te144 := by
  refine ⟨_, Try.t144, _, Try.underlying144, ⟨(fun _ h => by cases h), (fun _ _ h => by cases h)⟩, by kernel_rfl, rfl, rfl, rfl, rfl, fun μ H => ⟨trivial, trivial⟩, ?_⟩
  intro v hv
  simp only [Value.cells, List.mem_cons, List.not_mem_nil, or_false] at hv
  rcases hv with rfl <;> rfl
def te145 : TE := { td := .other, sz := 1, by_ := 8, zs := [.junk] }
theorem ok145 : OkT 145 te145 := by
  refine ⟨_, Try.t145, _, Try.underlying145, ⟨(fun _ h => by cases h), (fun _ _ h => by cases h)⟩, by kernel_rfl, rfl, rfl, rfl, rfl, fun μ H => ⟨trivial, trivial⟩, ?_⟩
  intro v hv
  simp only [Value.cells, List.mem_cons, List.not_mem_nil, or_false] at hv
  rcases hv with rfl <;> rfl
def te146 : TE := { td := .other, sz := 1, by_ := 8, zs := [.junk] }
theorem ok146 : OkT 146 te146 := by
  refine ⟨_, Try.t146, _, Try.underlying146, ⟨(fun _ h => by cases h), (fun _ _ h => by cases h)⟩, by kernel_rfl, rfl, rfl, rfl, rfl, fun μ H => ⟨trivial, trivial⟩, ?_⟩
  intro v hv
  simp only [Value.cells, List.mem_cons, List.not_mem_nil, or_false] at hv
  rcases hv with rfl <;> rfl
def te147 : TE := { td := .other, sz := 1, by_ := 8, zs := [.junk] }
theorem ok147 : OkT 147 te147 := by
  refine ⟨_, Try.t147, _, Try.underlying147, ⟨(fun _ h => by cases h), (fun _ _ h => by cases h)⟩, by kernel_rfl, rfl, rfl, rfl, rfl, fun μ H => ⟨trivial, trivial⟩, ?_⟩
  intro v hv
  simp only [Value.cells, List.mem_cons, List.not_mem_nil, or_false] at hv
  rcases hv with rfl <;> rfl
def te148 : TE := { td := .other, sz := 1, by_ := 8, zs := [.junk] }
theorem ok148 : OkT 148 te148 := by
  refine ⟨_, Try.t148, _, Try.underlying148, ⟨(fun _ h => by cases h), (fun _ _ h => by cases h)⟩, by kernel_rfl, rfl, rfl, rfl, rfl, fun μ H => ⟨trivial, trivial⟩, ?_⟩
  intro v hv
  simp only [Value.cells, List.mem_cons, List.not_mem_nil, or_false] at hv
  rcases hv with rfl <;> rfl
def te149 : TE := { td := .other, sz := 1, by_ := 8, zs := [.junk] }
theorem ok149 : OkT 149 te149 := by
  refine ⟨_, Try.t149, _, Try.underlying149, ⟨(fun _ h => by cases h), (fun _ _ h => by cases h)⟩, by kernel_rfl, rfl, rfl, rfl, rfl, fun μ H => ⟨trivial, trivial⟩, ?_⟩
  intro v hv
  simp only [Value.cells, List.mem_cons, List.not_mem_nil, or_false] at hv
  rcases hv with rfl <;> rfl
def te150 : TE := { td := .other, sz := 1, by_ := 8, zs := [.junk] }
theorem ok150 : OkT 150 te150 := by
  refine ⟨_, Try.t150, _, Try.underlying150, ⟨(fun _ h => by cases h), (fun _ _ h => by cases h)⟩, by kernel_rfl, rfl, rfl, rfl, rfl, fun μ H => ⟨trivial, trivial⟩, ?_⟩
  intro v hv
  simp only [Value.cells, List.mem_cons, List.not_mem_nil, or_false] at hv
  rcases hv with rfl <;> rfl
def te152 : TE := { td := .other, sz := 1, by_ := 8, zs := [.junk] }
theorem ok152 : OkT 152 te152 := by
  refine ⟨_, Try.t152, _, Try.underlying152, ⟨(fun _ h => by cases h), (fun _ _ h => by cases h)⟩, by kernel_rfl, rfl, rfl, rfl, rfl, fun μ H => ⟨trivial, trivial⟩, ?_⟩
  intro v hv
  simp only [Value.cells, List.mem_cons, List.not_mem_nil, or_false] at hv
  rcases hv with rfl <;> rfl
def te153 : TE := { td := .other, sz := 1, by_ := 8, zs := [.junk] }
theorem ok153 : OkT 153 te153 := by
  refine ⟨_, Try.t153, _, Try.underlying153, ⟨(fun _ h => by cases h), (fun _ _ h => by cases h)⟩, by kernel_rfl, rfl, rfl, rfl, rfl, fun μ H => ⟨trivial, trivial⟩, ?_⟩
  intro v hv
  simp only [Value.cells, List.mem_cons, List.not_mem_nil, or_false] at hv
  rcases hv with rfl <;> rfl
def te154 : TE := { td := .other, sz := 1, by_ := 8, zs := [.junk] }
theorem ok154 : OkT 154 te154 := by
  refine ⟨_, Try.t154, _, Try.underlying154, ⟨(fun _ h => by cases h), (fun _ _ h => by cases h)⟩, by kernel_rfl, rfl, rfl, rfl, rfl, fun μ H => ⟨trivial, trivial⟩, ?_⟩
  intro v hv
  simp only [Value.cells, List.mem_cons, List.not_mem_nil, or_false] at hv
  rcases hv with rfl <;> rfl
def te155 : TE := { td := .other, sz := 1, by_ := 8, zs := [.junk] }
theorem ok155 : OkT 155 te155 := by
  refine ⟨_, Try.t155, _, Try.underlying155, ⟨(fun _ h => by cases h), (fun _ _ h => by cases h)⟩, by kernel_rfl, rfl, rfl, rfl, rfl, fun μ H => ⟨trivial, trivial⟩, ?_⟩
  intro v hv
  simp only [Value.cells, List.mem_cons, List.not_mem_nil, or_false] at hv
  rcases hv with rfl <;> rfl
def te156 : TE := { td := .other, sz := 1, by_ := 8, zs := [.junk] }
theorem ok156 : OkT 156 te156 := by
  refine ⟨_, Try.t156, _, Try.underlying156, ⟨(fun _ h => by cases h), (fun _ _ h => by cases h)⟩, by kernel_rfl, rfl, rfl, rfl, rfl, fun μ H => ⟨trivial, trivial⟩, ?_⟩
  intro v hv
  simp only [Value.cells, List.mem_cons, List.not_mem_nil, or_false] at hv
  rcases hv with rfl <;> rfl
def te157 : TE := { td := .other, sz := 1, by_ := 8, zs := [.junk] }
theorem ok157 : OkT 157 te157 := by
  refine ⟨_, Try.t157, _, Try.underlying157, ⟨(fun _ h => by cases h), (fun _ _ h => by cases h)⟩, by kernel_rfl, rfl, rfl, rfl, rfl, fun μ H => ⟨trivial, trivial⟩, ?_⟩
  intro v hv
  simp only [Value.cells, List.mem_cons, List.not_mem_nil, or_false] at hv
  rcases hv with rfl <;> rfl
def te158 : TE := { td := .other, sz := 1, by_ := 8, zs := [.junk] }
theorem ok158 : OkT 158 te158 := by
  refine ⟨_, Try.t158, _, Try.underlying158, ⟨(fun _ h => by cases h), (fun _ _ h => by cases h)⟩, by kernel_rfl, rfl, rfl, rfl, rfl, fun μ H => ⟨trivial, trivial⟩, ?_⟩
  intro v hv
  simp only [Value.cells, List.mem_cons, List.not_mem_nil, or_false] at hv
  rcases hv with rfl <;> rfl
def te159 : TE := { td := .other, sz := 1, by_ := 8, zs := [.junk] }
theorem ok159 : OkT 159 te159 := by
  refine ⟨_, Try.t159, _, Try.underlying159, ⟨(fun _ h => by cases h), (fun _ _ h => by cases h)⟩, by kernel_rfl, rfl, rfl, rfl, rfl, fun μ H => ⟨trivial, trivial⟩, ?_⟩
  intro v hv
  simp only [Value.cells, List.mem_cons, List.not_mem_nil, or_false] at hv
  rcases hv with rfl <;> rfl
def te160 : TE := { td := .other, sz := 1, by_ := 8, zs := [.junk] }
theorem ok160 : OkT 160 te160 := by
  refine ⟨_, Try.t160, _, Try.underlying160, ⟨(fun _ h => by cases h), (fun _ _ h => by cases h)⟩, by kernel_rfl, rfl, rfl, rfl, rfl, fun μ H => ⟨trivial, trivial⟩, ?_⟩
  intro v hv
  simp only [Value.cells, List.mem_cons, List.not_mem_nil, or_false] at hv
  rcases hv with rfl <;> rfl
def te161 : TE := { td := .ptr 82, sz := 1, by_ := 8, zs := [.junk] }
theorem ok161 : OkT 161 te161 := by
  refine ⟨_, Try.t161, _, Try.underlying161, rfl, by kernel_rfl, rfl, rfl, rfl, rfl, fun μ H => ⟨trivial, trivial⟩, ?_⟩
  intro v hv
  simp only [Value.cells, List.mem_cons, List.not_mem_nil, or_false] at hv
  rcases hv with rfl <;> rfl
def te163 : TE := { td := .other, sz := 1, by_ := 8, zs := [.junk] }
theorem ok163 : OkT 163 te163 := by
  refine ⟨_, Try.t163, _, Try.underlying163, ⟨(fun _ h => by cases h), (fun _ _ h => by cases h)⟩, by kernel_rfl, rfl, rfl, rfl, rfl, fun μ H => ⟨trivial, trivial⟩, ?_⟩
  intro v hv
  simp only [Value.cells, List.mem_cons, List.not_mem_nil, or_false] at hv
  rcases hv with rfl <;> rfl
def te164 : TE := { td := .other, sz := 1, by_ := 8, zs := [.junk] }
theorem ok164 : OkT 164 te164 := by
  refine ⟨_, Try.t164, _, Try.underlying164, ⟨(fun _ h => by cases h), (fun _ _ h => by cases h)⟩, by kernel_rfl, rfl, rfl, rfl, rfl, fun μ H => ⟨trivial, trivial⟩, ?_⟩
  intro v hv
  simp only [Value.cells, List.mem_cons, List.not_mem_nil, or_false] at hv
  rcases hv with rfl <;> rfl
def te165 : TE := { td := .other, sz := 1, by_ := 8, zs := [.junk] }
theorem ok165 : OkT 165 te165 := by
  refine ⟨_, Try.t165, _, Try.underlying165, ⟨(fun _ h => by cases h), (fun _ _ h => by cases h)⟩, by kernel_rfl, rfl, rfl, rfl, rfl, fun μ H => ⟨trivial, trivial⟩, ?_⟩
  intro v hv
  simp only [Value.cells, List.mem_cons, List.not_mem_nil, or_false] at hv
  rcases hv with rfl <;> rfl
def te166 : TE := { td := .other, sz := 1, by_ := 8, zs := [.junk] }
theorem ok166 : OkT 166 te166 := by
  refine ⟨_, Try.t166, _, Try.underlying166, ⟨(fun _ h => by cases h), (fun _ _ h => by cases h)⟩, by kernel_rfl, rfl, rfl, rfl, rfl, fun μ H => ⟨trivial, trivial⟩, ?_⟩
  intro v hv
  simp only [Value.cells, List.mem_cons, List.not_mem_nil, or_false] at hv
  rcases hv with rfl <;> rfl
def te167 : TE := { td := .other, sz := 1, by_ := 8, zs := [.junk] }
theorem ok167 : OkT 167 te167 := by
  refine ⟨_, Try.t167, _, Try.underlying167, ⟨(fun _ h => by cases h), (fun _ _ h => by cases h)⟩, by kernel_rfl, rfl, rfl, rfl, rfl, fun μ H => ⟨trivial, trivial⟩, ?_⟩
  intro v hv
  simp only [Value.cells, List.mem_cons, List.not_mem_nil, or_false] at hv
  rcases hv with rfl <;> rfl
def te168 : TE := { td := .ptr 92, sz := 1, by_ := 8, zs := [.junk] }
theorem ok168 : OkT 168 te168 := by
  refine ⟨_, Try.t168, _, Try.underlying168, rfl, by kernel_rfl, rfl, rfl, rfl, rfl, fun μ H => ⟨trivial, trivial⟩, ?_⟩
  intro v hv
  simp only [Value.cells, List.mem_cons, List.not_mem_nil, or_false] at hv
  rcases hv with rfl <;> rfl
def te169 : TE := { td := .other, sz := 1, by_ := 8, zs := [.junk] }
theorem ok169 : OkT 169 te169 := by
  refine ⟨_, Try.t169, _, Try.underlying169, ⟨(fun _ h => by cases h), (fun _ _ h => by cases h)⟩, by kernel_rfl, rfl, rfl, rfl, rfl, fun μ H => ⟨trivial, trivial⟩, ?_⟩
  intro v hv
  simp only [Value.cells, List.mem_cons, List.not_mem_nil, or_false] at hv
  rcases hv with rfl <;> rfl
def te170 : TE := { td := .other, sz := 1, by_ := 8, zs := [.junk] }
theorem ok170 : OkT 170 te170 := by
  refine ⟨_, Try.t170, _, Try.underlying170, ⟨(fun _ h => by cases h), (fun _ _ h => by cases h)⟩, by kernel_rfl, rfl, rfl, rfl, rfl, fun μ H => ⟨trivial, trivial⟩, ?_⟩
  intro v hv
  simp only [Value.cells, List.mem_cons, List.not_mem_nil, or_false] at hv
  rcases hv with rfl <;> rfl
def te171 : TE := { td := .other, sz := 1, by_ := 8, zs := [.junk] }
theorem ok171 : OkT 171 te171 := by
  refine ⟨_, Try.t171, _, Try.underlying171, ⟨(fun _ h => by cases h), (fun _ _ h => by cases h)⟩, by kernel_rfl, rfl, rfl, rfl, rfl, fun μ H => ⟨trivial, trivial⟩, ?_⟩
  intro v hv
  simp only [Value.cells, List.mem_cons, List.not_mem_nil, or_false] at hv
  rcases hv with rfl <;> rfl
def te172 : TE := { td := .other, sz := 1, by_ := 8, zs := [.junk] }
theorem ok172 : OkT 172 te172 := by
  refine ⟨_, Try.t172, _, Try.underlying172, ⟨(fun _ h => by cases h), (fun _ _ h => by cases h)⟩, by kernel_rfl, rfl, rfl, rfl, rfl, fun μ H => ⟨trivial, trivial⟩, ?_⟩
  intro v hv
  simp only [Value.cells, List.mem_cons, List.not_mem_nil, or_false] at hv
  rcases hv with rfl <;> rfl
def te173 : TE := { td := .other, sz := 1, by_ := 8, zs := [.junk] }
theorem ok173 : OkT 173 te173 := by
  refine ⟨_, Try.t173, _, Try.underlying173, ⟨(fun _ h => by cases h), (fun _ _ h => by cases h)⟩, by kernel_rfl, rfl, rfl, rfl, rfl, fun μ H => ⟨trivial, trivial⟩, ?_⟩
  intro v hv
  simp only [Value.cells, List.mem_cons, List.not_mem_nil, or_false] at hv
  rcases hv with rfl <;> rfl
def te174 : TE := { td := .other, sz := 1, by_ := 8, zs := [.junk] }
theorem ok174 : OkT 174 te174 := by
  refine ⟨_, Try.t174, _, Try.underlying174, ⟨(fun _ h => by cases h), (fun _ _ h => by cases h)⟩, by kernel_rfl, rfl, rfl, rfl, rfl, fun μ H => ⟨trivial, trivial⟩, ?_⟩
  intro v hv
  simp only [Value.cells, List.mem_cons, List.not_mem_nil, or_false] at hv
  rcases hv with rfl <;> rfl
def te175 : TE := { td := .slice 177, sz := 1, by_ := 24, zs := [.nils] }
theorem ok175 : OkT 175 te175 := by
  refine ⟨_, Try.t175, _, Try.underlying175, rfl, by kernel_rfl, rfl, rfl, rfl, rfl, fun μ H => ⟨⟨none, rfl⟩, trivial⟩, ?_⟩
  intro v hv
  simp only [Value.cells, List.mem_cons, List.not_mem_nil, or_false] at hv
  rcases hv with rfl <;> rfl
def te176 : TE := { td := .struct [(0, 32), (1, 2)], sz := 2, by_ := 16, zs := [.flt .f32 (some 0), .int .i64 0] }
theorem ok176 : OkT 176 te176 := by
  refine ⟨_, Try.t176, _, Try.underlying176, ⟨_, rfl, rfl⟩, by kernel_rfl, rfl, rfl, rfl, rfl, fun μ H => ⟨⟨0, rfl, can_f32_0⟩, ⟨rfl, trivial⟩⟩, ?_⟩
  intro v hv
  simp only [Value.cells, List.mem_cons, List.not_mem_nil, or_false] at hv
  rcases hv with rfl | rfl <;> rfl
def te177 : TE := { td := .struct [(0, 32), (1, 2)], sz := 2, by_ := 16, zs := [.flt .f32 (some 0), .int .i64 0] }
theorem ok177 : OkT 177 te177 := by
  refine ⟨_, Try.t177, _, Try.underlying177, ⟨_, rfl, rfl⟩, by kernel_rfl, rfl, rfl, rfl, rfl, fun μ H => ⟨⟨0, rfl, can_f32_0⟩, ⟨rfl, trivial⟩⟩, ?_⟩
  intro v hv
  simp only [Value.cells, List.mem_cons, List.not_mem_nil, or_false] at hv
  rcases hv with rfl | rfl <;> rfl
def te178 : TE := { td := .other, sz := 1, by_ := 8, zs := [.junk] }
theorem ok178 : OkT 178 te178 := by
  refine ⟨_, Try.t178, _, Try.underlying178, ⟨(fun _ h => by cases h), (fun _ _ h => by cases h)⟩, by kernel_rfl, rfl, rfl, rfl, rfl, fun μ H => ⟨trivial, trivial⟩, ?_⟩
  intro v hv
  simp only [Value.cells, List.mem_cons, List.not_mem_nil, or_false] at hv
  rcases hv with rfl <;> rfl
def te179 : TE := { td := .other, sz := 1, by_ := 8, zs := [.junk] }
theorem ok179 : OkT 179 te179 := by
  refine ⟨_, Try.t179, _, Try.underlying179, ⟨(fun _ h => by cases h), (fun _ _ h => by cases h)⟩, by kernel_rfl, rfl, rfl, rfl, rfl, fun μ H => ⟨trivial, trivial⟩, ?_⟩
  intro v hv
  simp only [Value.cells, List.mem_cons, List.not_mem_nil, or_false] at hv
  rcases hv with rfl <;> rfl
def te180 : TE := { td := .other, sz := 1, by_ := 8, zs := [.junk] }
theorem ok180 : OkT 180 te180 := by
  refine ⟨_, Try.t180, _, Try.underlying180, ⟨(fun _ h => by cases h), (fun _ _ h => by cases h)⟩, by kernel_rfl, rfl, rfl, rfl, rfl, fun μ H => ⟨trivial, trivial⟩, ?_⟩
  intro v hv
  simp only [Value.cells, List.mem_cons, List.not_mem_nil, or_false] at hv
  rcases hv with rfl <;> rfl
def te181 : TE := { td := .other, sz := 1, by_ := 8, zs := [.junk] }
theorem ok181 : OkT 181 te181 := by
  refine ⟨_, Try.t181, _, Try.underlying181, ⟨(fun _ h => by cases h), (fun _ _ h => by cases h)⟩, by kernel_rfl, rfl, rfl, rfl, rfl, fun μ H => ⟨trivial, trivial⟩, ?_⟩
  intro v hv
  simp only [Value.cells, List.mem_cons, List.not_mem_nil, or_false] at hv
  rcases hv with rfl <;> rfl
def te182 : TE := { td := .other, sz := 1, by_ := 8, zs := [.junk] }
theorem ok182 : OkT 182 te182 := by
  refine ⟨_, Try.t182, _, Try.underlying182, ⟨(fun _ h => by cases h), (fun _ _ h => by cases h)⟩, by kernel_rfl, rfl, rfl, rfl, rfl, fun μ H => ⟨trivial, trivial⟩, ?_⟩
  intro v hv
  simp only [Value.cells, List.mem_cons, List.not_mem_nil, or_false] at hv
  rcases hv with rfl <;> rfl
def te183 : TE := { td := .other, sz := 1, by_ := 8, zs := [.junk] }
theorem ok183 : OkT 183 te183 := by
  refine ⟨_, Try.t183, _, Try.underlying183, ⟨(fun _ h => by cases h), (fun _ _ h => by cases h)⟩, by kernel_rfl, rfl, rfl, rfl, rfl, fun μ H => ⟨trivial, trivial⟩, ?_⟩
  intro v hv
  simp only [Value.cells, List.mem_cons, List.not_mem_nil, or_false] at hv
  rcases hv with rfl <;> rfl
def te184 : TE := { td := .other, sz := 1, by_ := 8, zs := [.junk] }
theorem ok184 : OkT 184 te184 := by
  refine ⟨_, Try.t184, _, Try.underlying184, ⟨(fun _ h => by cases h), (fun _ _ h => by cases h)⟩, by kernel_rfl, rfl, rfl, rfl, rfl, fun μ H => ⟨trivial, trivial⟩, ?_⟩
  intro v hv
  simp only [Value.cells, List.mem_cons, List.not_mem_nil, or_false] at hv
  rcases hv with rfl <;> rfl
def te185 : TE := { td := .slice 24, sz := 1, by_ := 24, zs := [.nils] }
theorem ok185 : OkT 185 te185 := by
  refine ⟨_, Try.t185, _, Try.underlying185, rfl, by kernel_rfl, rfl, rfl, rfl, rfl, fun μ H => ⟨⟨none, rfl⟩, trivial⟩, ?_⟩
  intro v hv
  simp only [Value.cells, List.mem_cons, List.not_mem_nil, or_false] at hv
  rcases hv with rfl <;> rfl
def te186 : TE := { td := .arr 3 2, sz := 3, by_ := 24, zs := [.int .i64 0, .int .i64 0, .int .i64 0] }
theorem ok186 : OkT 186 te186 := by
  refine ⟨_, Try.t186, _, Try.underlying186, rfl, by kernel_rfl, rfl, rfl, rfl, rfl, fun μ H => ⟨rfl, ⟨rfl, ⟨rfl, trivial⟩⟩⟩, ?_⟩
  intro v hv
  simp only [Value.cells, List.mem_cons, List.not_mem_nil, or_false] at hv
  rcases hv with rfl | rfl | rfl <;> rfl
def te188 : TE := { td := .other, sz := 1, by_ := 8, zs := [.junk] }
theorem ok188 : OkT 188 te188 := by
  refine ⟨_, Try.t188, _, Try.underlying188, ⟨(fun _ h => by cases h), (fun _ _ h => by cases h)⟩, by kernel_rfl, rfl, rfl, rfl, rfl, fun μ H => ⟨trivial, trivial⟩, ?_⟩
  intro v hv
  simp only [Value.cells, List.mem_cons, List.not_mem_nil, or_false] at hv
  rcases hv with rfl <;> rfl
def te189 : TE := { td := .other, sz := 1, by_ := 8, zs := [.junk] }
theorem ok189 : OkT 189 te189 := by
  refine ⟨_, Try.t189, _, Try.underlying189, ⟨(fun _ h => by cases h), (fun _ _ h => by cases h)⟩, by kernel_rfl, rfl, rfl, rfl, rfl, fun μ H => ⟨trivial, trivial⟩, ?_⟩
  intro v hv
  simp only [Value.cells, List.mem_cons, List.not_mem_nil, or_false] at hv
  rcases hv with rfl <;> rfl
def te190 : TE := { td := .other, sz := 1, by_ := 8, zs := [.junk] }
theorem ok190 : OkT 190 te190 := by
  refine ⟨_, Try.t190, _, Try.underlying190, ⟨(fun _ h => by cases h), (fun _ _ h => by cases h)⟩, by kernel_rfl, rfl, rfl, rfl, rfl, fun μ H => ⟨trivial, trivial⟩, ?_⟩
  intro v hv
  simp only [Value.cells, List.mem_cons, List.not_mem_nil, or_false] at hv
  rcases hv with rfl <;> rfl
def te192 : TE := { td := .other, sz := 1, by_ := 8, zs := [.junk] }
theorem ok192 : OkT 192 te192 := by
  refine ⟨_, Try.t192, _, Try.underlying192, ⟨(fun _ h => by cases h), (fun _ _ h => by cases h)⟩, by kernel_rfl, rfl, rfl, rfl, rfl, fun μ H => ⟨trivial, trivial⟩, ?_⟩
  intro v hv
  simp only [Value.cells, List.mem_cons, List.not_mem_nil, or_false] at hv
  rcases hv with rfl <;> rfl
def te194 : TE := { td := .other, sz := 1, by_ := 8, zs := [.junk] }
theorem ok194 : OkT 194 te194 := by
  refine ⟨_, Try.t194, _, Try.underlying194, ⟨(fun _ h => by cases h), (fun _ _ h => by cases h)⟩, by kernel_rfl, rfl, rfl, rfl, rfl, fun μ H => ⟨trivial, trivial⟩, ?_⟩
  intro v hv
  simp only [Value.cells, List.mem_cons, List.not_mem_nil, or_false] at hv
  rcases hv with rfl <;> rfl
def te195 : TE := { td := .int .u64, sz := 1, by_ := 8, zs := [.int .u64 0] }
theorem ok195 : OkT 195 te195 := by
  refine ⟨_, Try.t195, _, Try.underlying195, rfl, by kernel_rfl, rfl, rfl, rfl, rfl, fun μ H => ⟨rfl, trivial⟩, ?_⟩
  intro v hv
  simp only [Value.cells, List.mem_cons, List.not_mem_nil, or_false] at hv
  rcases hv with rfl <;> rfl
def te196 : TE := { td := .struct [(0, 22), (1, 3), (2, 195)], sz := 3, by_ := 40, zs := [.nils, .int .i64 0, .int .u64 0] }
theorem ok196 : OkT 196 te196 := by
  refine ⟨_, Try.t196, _, Try.underlying196, ⟨_, rfl, rfl⟩, by kernel_rfl, rfl, rfl, rfl, rfl, fun μ H => ⟨⟨none, rfl⟩, ⟨rfl, ⟨rfl, trivial⟩⟩⟩, ?_⟩
  intro v hv
  simp only [Value.cells, List.mem_cons, List.not_mem_nil, or_false] at hv
  rcases hv with rfl | rfl | rfl <;> rfl
def te197 : TE := { td := .struct [(0, 22), (1, 3), (2, 195)], sz := 3, by_ := 40, zs := [.nils, .int .i64 0, .int .u64 0] }
theorem ok197 : OkT 197 te197 := by
  refine ⟨_, Try.t197, _, Try.underlying197, ⟨_, rfl, rfl⟩, by kernel_rfl, rfl, rfl, rfl, rfl, fun μ H => ⟨⟨none, rfl⟩, ⟨rfl, ⟨rfl, trivial⟩⟩⟩, ?_⟩
  intro v hv
  simp only [Value.cells, List.mem_cons, List.not_mem_nil, or_false] at hv
  rcases hv with rfl | rfl | rfl <;> rfl
def te198 : TE := { td := .other, sz := 1, by_ := 8, zs := [.junk] }
theorem ok198 : OkT 198 te198 := by
  refine ⟨_, Try.t198, _, Try.underlying198, ⟨(fun _ h => by cases h), (fun _ _ h => by cases h)⟩, by kernel_rfl, rfl, rfl, rfl, rfl, fun μ H => ⟨trivial, trivial⟩, ?_⟩
  intro v hv
  simp only [Value.cells, List.mem_cons, List.not_mem_nil, or_false] at hv
  rcases hv with rfl <;> rfl
def te199 : TE := { td := .int .u64, sz := 1, by_ := 8, zs := [.int .u64 0] }
theorem ok199 : OkT 199 te199 := by
  refine ⟨_, Try.t199, _, Try.underlying199, rfl, by kernel_rfl, rfl, rfl, rfl, rfl, fun μ H => ⟨rfl, trivial⟩, ?_⟩
  intro v hv
  simp only [Value.cells, List.mem_cons, List.not_mem_nil, or_false] at hv
  rcases hv with rfl <;> rfl
def te200 : TE := { td := .other, sz := 1, by_ := 8, zs := [.junk] }
theorem ok200 : OkT 200 te200 := by
  refine ⟨_, Try.t200, _, Try.underlying200, ⟨(fun _ h => by cases h), (fun _ _ h => by cases h)⟩, by kernel_rfl, rfl, rfl, rfl, rfl, fun μ H => ⟨trivial, trivial⟩, ?_⟩
  intro v hv
  simp only [Value.cells, List.mem_cons, List.not_mem_nil, or_false] at hv
  rcases hv with rfl <;> rfl
def te201 : TE := { td := .int .u32, sz := 1, by_ := 4, zs := [.int .u32 0] }
theorem ok201 : OkT 201 te201 := by
  refine ⟨_, Try.t201, _, Try.underlying201, rfl, by kernel_rfl, rfl, rfl, rfl, rfl, fun μ H => ⟨rfl, trivial⟩, ?_⟩
  intro v hv
  simp only [Value.cells, List.mem_cons, List.not_mem_nil, or_false] at hv
  rcases hv with rfl <;> rfl
def te202 : TE := { td := .other, sz := 1, by_ := 8, zs := [.junk] }
theorem ok202 : OkT 202 te202 := by
  refine ⟨_, Try.t202, _, Try.underlying202, ⟨(fun _ h => by cases h), (fun _ _ h => by cases h)⟩, by kernel_rfl, rfl, rfl, rfl, rfl, fun μ H => ⟨trivial, trivial⟩, ?_⟩
  intro v hv
  simp only [Value.cells, List.mem_cons, List.not_mem_nil, or_false] at hv
  rcases hv with rfl <;> rfl
def te203 : TE := { td := .other, sz := 1, by_ := 8, zs := [.junk] }
theorem ok203 : OkT 203 te203 := by
  refine ⟨_, Try.t203, _, Try.underlying203, ⟨(fun _ h => by cases h), (fun _ _ h => by cases h)⟩, by kernel_rfl, rfl, rfl, rfl, rfl, fun μ H => ⟨trivial, trivial⟩, ?_⟩
  intro v hv
  simp only [Value.cells, List.mem_cons, List.not_mem_nil, or_false] at hv
  rcases hv with rfl <;> rfl
def te204 : TE := { td := .other, sz := 1, by_ := 8, zs := [.junk] }
theorem ok204 : OkT 204 te204 := by
  refine ⟨_, Try.t204, _, Try.underlying204, ⟨(fun _ h => by cases h), (fun _ _ h => by cases h)⟩, by kernel_rfl, rfl, rfl, rfl, rfl, fun μ H => ⟨trivial, trivial⟩, ?_⟩
  intro v hv
  simp only [Value.cells, List.mem_cons, List.not_mem_nil, or_false] at hv
  rcases hv with rfl <;> rfl
def te205 : TE := { td := .other, sz := 1, by_ := 8, zs := [.junk] }
theorem ok205 : OkT 205 te205 := by
  refine ⟨_, Try.t205, _, Try.underlying205, ⟨(fun _ h => by cases h), (fun _ _ h => by cases h)⟩, by kernel_rfl, rfl, rfl, rfl, rfl, fun μ H => ⟨trivial, trivial⟩, ?_⟩
  intro v hv
  simp only [Value.cells, List.mem_cons, List.not_mem_nil, or_false] at hv
  rcases hv with rfl <;> rfl
def te206 : TE := { td := .other, sz := 1, by_ := 8, zs := [.junk] }
theorem ok206 : OkT 206 te206 := by
  refine ⟨_, Try.t206, _, Try.underlying206, ⟨(fun _ h => by cases h), (fun _ _ h => by cases h)⟩, by kernel_rfl, rfl, rfl, rfl, rfl, fun μ H => ⟨trivial, trivial⟩, ?_⟩
  intro v hv
  simp only [Value.cells, List.mem_cons, List.not_mem_nil, or_false] at hv
  rcases hv with rfl <;> rfl
def te207 : TE := { td := .other, sz := 1, by_ := 8, zs := [.junk] }
theorem ok207 : OkT 207 te207 := by
  refine ⟨_, Try.t207, _, Try.underlying207, ⟨(fun _ h => by cases h), (fun _ _ h => by cases h)⟩, by kernel_rfl, rfl, rfl, rfl, rfl, fun μ H => ⟨trivial, trivial⟩, ?_⟩
  intro v hv
  simp only [Value.cells, List.mem_cons, List.not_mem_nil, or_false] at hv
  rcases hv with rfl <;> rfl
def te208 : TE := { td := .other, sz := 1, by_ := 8, zs := [.junk] }
theorem ok208 : OkT 208 te208 := by
  refine ⟨_, Try.t208, _, Try.underlying208, ⟨(fun _ h => by cases h), (fun _ _ h => by cases h)⟩, by kernel_rfl, rfl, rfl, rfl, rfl, fun μ H => ⟨trivial, trivial⟩, ?_⟩
  intro v hv
  simp only [Value.cells, List.mem_cons, List.not_mem_nil, or_false] at hv
  rcases hv with rfl <;> rfl
def te209 : TE := { td := .other, sz := 1, by_ := 8, zs := [.junk] }
theorem ok209 : OkT 209 te209 := by
  refine ⟨_, Try.t209, _, Try.underlying209, ⟨(fun _ h => by cases h), (fun _ _ h => by cases h)⟩, by kernel_rfl, rfl, rfl, rfl, rfl, fun μ H => ⟨trivial, trivial⟩, ?_⟩
  intro v hv
  simp only [Value.cells, List.mem_cons, List.not_mem_nil, or_false] at hv
  rcases hv with rfl <;> rfl
def te210 : TE := { td := .other, sz := 1, by_ := 8, zs := [.junk] }
theorem ok210 : OkT 210 te210 := by
  refine ⟨_, Try.t210, _, Try.underlying210, ⟨(fun _ h => by cases h), (fun _ _ h => by cases h)⟩, by kernel_rfl, rfl, rfl, rfl, rfl, fun μ H => ⟨trivial, trivial⟩, ?_⟩
  intro v hv
  simp only [Value.cells, List.mem_cons, List.not_mem_nil, or_false] at hv
  rcases hv with rfl <;> rfl
def te211 : TE := { td := .other, sz := 1, by_ := 8, zs := [.junk] }
theorem ok211 : OkT 211 te211 := by
  refine ⟨_, Try.t211, _, Try.underlying211, ⟨(fun _ h => by cases h), (fun _ _ h => by cases h)⟩, by kernel_rfl, rfl, rfl, rfl, rfl, fun μ H => ⟨trivial, trivial⟩, ?_⟩
  intro v hv
  simp only [Value.cells, List.mem_cons, List.not_mem_nil, or_false] at hv
  rcases hv with rfl <;> rfl
def te212 : TE := { td := .other, sz := 1, by_ := 8, zs := [.junk] }
theorem ok212 : OkT 212 te212 := by
  refine ⟨_, Try.t212, _, Try.underlying212, ⟨(fun _ h => by cases h), (fun _ _ h => by cases h)⟩, by kernel_rfl, rfl, rfl, rfl, rfl, fun μ H => ⟨trivial, trivial⟩, ?_⟩
  intro v hv
  simp only [Value.cells, List.mem_cons, List.not_mem_nil, or_false] at hv
  rcases hv with rfl <;> rfl
def te213 : TE := { td := .other, sz := 1, by_ := 8, zs := [.junk] }
theorem ok213 : OkT 213 te213 := by
  refine ⟨_, Try.t213, _, Try.underlying213, ⟨(fun _ h => by cases h), (fun _ _ h => by cases h)⟩, by kernel_rfl, rfl, rfl, rfl, rfl, fun μ H => ⟨trivial, trivial⟩, ?_⟩
  intro v hv
  simp only [Value.cells, List.mem_cons, List.not_mem_nil, or_false] at hv
  rcases hv with rfl <;> rfl
def te214 : TE := { td := .other, sz := 1, by_ := 8, zs := [.junk] }
theorem ok214 : OkT 214 te214 := by
  refine ⟨_, Try.t214, _, Try.underlying214, ⟨(fun _ h => by cases h), (fun _ _ h => by cases h)⟩, by kernel_rfl, rfl, rfl, rfl, rfl, fun μ H => ⟨trivial, trivial⟩, ?_⟩
  intro v hv
  simp only [Value.cells, List.mem_cons, List.not_mem_nil, or_false] at hv
  rcases hv with rfl <;> rfl
def te215 : TE := { td := .other, sz := 1, by_ := 8, zs := [.junk] }
theorem ok215 : OkT 215 te215 := by
  refine ⟨_, Try.t215, _, Try.underlying215, ⟨(fun _ h => by cases h), (fun _ _ h => by cases h)⟩, by kernel_rfl, rfl, rfl, rfl, rfl, fun μ H => ⟨trivial, trivial⟩, ?_⟩
  intro v hv
  simp only [Value.cells, List.mem_cons, List.not_mem_nil, or_false] at hv
  rcases hv with rfl <;> rfl
def te216 : TE := { td := .other, sz := 1, by_ := 8, zs := [.junk] }
theorem ok216 : OkT 216 te216 := by
  refine ⟨_, Try.t216, _, Try.underlying216, ⟨(fun _ h => by cases h), (fun _ _ h => by cases h)⟩, by kernel_rfl, rfl, rfl, rfl, rfl, fun μ H => ⟨trivial, trivial⟩, ?_⟩
  intro v hv
  simp only [Value.cells, List.mem_cons, List.not_mem_nil, or_false] at hv
  rcases hv with rfl <;> rfl
def te217 : TE := { td := .other, sz := 1, by_ := 8, zs := [.junk] }
theorem ok217 : OkT 217 te217 := by
  refine ⟨_, Try.t217, _, Try.underlying217, ⟨(fun _ h => by cases h), (fun _ _ h => by cases h)⟩, by kernel_rfl, rfl, rfl, rfl, rfl, fun μ H => ⟨trivial, trivial⟩, ?_⟩
  intro v hv
  simp only [Value.cells, List.mem_cons, List.not_mem_nil, or_false] at hv
  rcases hv with rfl <;> rfl
def te218 : TE := { td := .other, sz := 1, by_ := 8, zs := [.junk] }
theorem ok218 : OkT 218 te218 := by
  refine ⟨_, Try.t218, _, Try.underlying218, ⟨(fun _ h => by cases h), (fun _ _ h => by cases h)⟩, by kernel_rfl, rfl, rfl, rfl, rfl, fun μ H => ⟨trivial, trivial⟩, ?_⟩
  intro v hv
  simp only [Value.cells, List.mem_cons, List.not_mem_nil, or_false] at hv
  rcases hv with rfl <;> rfl
def te219 : TE := { td := .other, sz := 1, by_ := 8, zs := [.junk] }
theorem ok219 : OkT 219 te219 := by
  refine ⟨_, Try.t219, _, Try.underlying219, ⟨(fun _ h => by cases h), (fun _ _ h => by cases h)⟩, by kernel_rfl, rfl, rfl, rfl, rfl, fun μ H => ⟨trivial, trivial⟩, ?_⟩
  intro v hv
  simp only [Value.cells, List.mem_cons, List.not_mem_nil, or_false] at hv
  rcases hv with rfl <;> rfl
def te220 : TE := { td := .other, sz := 1, by_ := 8, zs := [.junk] }
theorem ok220 : OkT 220 te220 := by
  refine ⟨_, Try.t220, _, Try.underlying220, ⟨(fun _ h => by cases h), (fun _ _ h => by cases h)⟩, by kernel_rfl, rfl, rfl, rfl, rfl, fun μ H => ⟨trivial, trivial⟩, ?_⟩
  intro v hv
  simp only [Value.cells, List.mem_cons, List.not_mem_nil, or_false] at hv
  rcases hv with rfl <;> rfl
def te221 : TE := { td := .other, sz := 1, by_ := 8, zs := [.junk] }
theorem ok221 : OkT 221 te221 := by
  refine ⟨_, Try.t221, _, Try.underlying221, ⟨(fun _ h => by cases h), (fun _ _ h => by cases h)⟩, by kernel_rfl, rfl, rfl, rfl, rfl, fun μ H => ⟨trivial, trivial⟩, ?_⟩
  intro v hv
  simp only [Value.cells, List.mem_cons, List.not_mem_nil, or_false] at hv
  rcases hv with rfl <;> rfl
def te222 : TE := { td := .other, sz := 1, by_ := 8, zs := [.junk] }
theorem ok222 : OkT 222 te222 := by
  refine ⟨_, Try.t222, _, Try.underlying222, ⟨(fun _ h => by cases h), (fun _ _ h => by cases h)⟩, by kernel_rfl, rfl, rfl, rfl, rfl, fun μ H => ⟨trivial, trivial⟩, ?_⟩
  intro v hv
  simp only [Value.cells, List.mem_cons, List.not_mem_nil, or_false] at hv
  rcases hv with rfl <;> rfl
def te223 : TE := { td := .other, sz := 1, by_ := 8, zs := [.junk] }
theorem ok223 : OkT 223 te223 := by
  refine ⟨_, Try.t223, _, Try.underlying223, ⟨(fun _ h => by cases h), (fun _ _ h => by cases h)⟩, by kernel_rfl, rfl, rfl, rfl, rfl, fun μ H => ⟨trivial, trivial⟩, ?_⟩
  intro v hv
  simp only [Value.cells, List.mem_cons, List.not_mem_nil, or_false] at hv
  rcases hv with rfl <;> rfl
def te224 : TE := { td := .other, sz := 1, by_ := 8, zs := [.junk] }
theorem ok224 : OkT 224 te224 := by
  refine ⟨_, Try.t224, _, Try.underlying224, ⟨(fun _ h => by cases h), (fun _ _ h => by cases h)⟩, by kernel_rfl, rfl, rfl, rfl, rfl, fun μ H => ⟨trivial, trivial⟩, ?_⟩
  intro v hv
  simp only [Value.cells, List.mem_cons, List.not_mem_nil, or_false] at hv
  rcases hv with rfl <;> rfl
def te225 : TE := { td := .other, sz := 1, by_ := 8, zs := [.junk] }
theorem ok225 : OkT 225 te225 := by
  refine ⟨_, Try.t225, _, Try.underlying225, ⟨(fun _ h => by cases h), (fun _ _ h => by cases h)⟩, by kernel_rfl, rfl, rfl, rfl, rfl, fun μ H => ⟨trivial, trivial⟩, ?_⟩
  intro v hv
  simp only [Value.cells, List.mem_cons, List.not_mem_nil, or_false] at hv
  rcases hv with rfl <;> rfl
def te226 : TE := { td := .int .i64, sz := 1, by_ := 8, zs := [.int .i64 0] }
theorem ok226 : OkT 226 te226 := by
  refine ⟨_, Try.t226, _, Try.underlying226, rfl, by kernel_rfl, rfl, rfl, rfl, rfl, fun μ H => ⟨rfl, trivial⟩, ?_⟩
  intro v hv
  simp only [Value.cells, List.mem_cons, List.not_mem_nil, or_false] at hv
  rcases hv with rfl <;> rfl
def te228 : TE := { td := .other, sz := 1, by_ := 8, zs := [.junk] }
theorem ok228 : OkT 228 te228 := by
  refine ⟨_, Try.t228, _, Try.underlying228, ⟨(fun _ h => by cases h), (fun _ _ h => by cases h)⟩, by kernel_rfl, rfl, rfl, rfl, rfl, fun μ H => ⟨trivial, trivial⟩, ?_⟩
  intro v hv
  simp only [Value.cells, List.mem_cons, List.not_mem_nil, or_false] at hv
  rcases hv with rfl <;> rfl
def te229 : TE := { td := .other, sz := 1, by_ := 8, zs := [.junk] }
theorem ok229 : OkT 229 te229 := by
  refine ⟨_, Try.t229, _, Try.underlying229, ⟨(fun _ h => by cases h), (fun _ _ h => by cases h)⟩, by kernel_rfl, rfl, rfl, rfl, rfl, fun μ H => ⟨trivial, trivial⟩, ?_⟩
  intro v hv
  simp only [Value.cells, List.mem_cons, List.not_mem_nil, or_false] at hv
  rcases hv with rfl <;> rfl
def te230 : TE := { td := .other, sz := 1, by_ := 8, zs := [.junk] }
theorem ok230 : OkT 230 te230 := by
  refine ⟨_, Try.t230, _, Try.underlying230, ⟨(fun _ h => by cases h), (fun _ _ h => by cases h)⟩, by kernel_rfl, rfl, rfl, rfl, rfl, fun μ H => ⟨trivial, trivial⟩, ?_⟩
  intro v hv
  simp only [Value.cells, List.mem_cons, List.not_mem_nil, or_false] at hv
  rcases hv with rfl <;> rfl
def te231 : TE := { td := .other, sz := 1, by_ := 8, zs := [.junk] }
theorem ok231 : OkT 231 te231 := by
  refine ⟨_, Try.t231, _, Try.underlying231, ⟨(fun _ h => by cases h), (fun _ _ h => by cases h)⟩, by kernel_rfl, rfl, rfl, rfl, rfl, fun μ H => ⟨trivial, trivial⟩, ?_⟩
  intro v hv
  simp only [Value.cells, List.mem_cons, List.not_mem_nil, or_false] at hv
  rcases hv with rfl <;> rfl
def te233 : TE := { td := .other, sz := 1, by_ := 8, zs := [.junk] }
theorem ok233 : OkT 233 te233 := by
  refine ⟨_, Try.t233, _, Try.underlying233, ⟨(fun _ h => by cases h), (fun _ _ h => by cases h)⟩, by kernel_rfl, rfl, rfl, rfl, rfl, fun μ H => ⟨trivial, trivial⟩, ?_⟩
  intro v hv
  simp only [Value.cells, List.mem_cons, List.not_mem_nil, or_false] at hv
  rcases hv with rfl <;> rfl
def te234 : TE := { td := .other, sz := 1, by_ := 8, zs := [.junk] }
theorem ok234 : OkT 234 te234 := by
  refine ⟨_, Try.t234, _, Try.underlying234, ⟨(fun _ h => by cases h), (fun _ _ h => by cases h)⟩, by kernel_rfl, rfl, rfl, rfl, rfl, fun μ H => ⟨trivial, trivial⟩, ?_⟩
  intro v hv
  simp only [Value.cells, List.mem_cons, List.not_mem_nil, or_false] at hv
  rcases hv with rfl <;> rfl
def te235 : TE := { td := .other, sz := 1, by_ := 8, zs := [.junk] }
theorem ok235 : OkT 235 te235 := by
  refine ⟨_, Try.t235, _, Try.underlying235, ⟨(fun _ h => by cases h), (fun _ _ h => by cases h)⟩, by kernel_rfl, rfl, rfl, rfl, rfl, fun μ H => ⟨trivial, trivial⟩, ?_⟩
  intro v hv
  simp only [Value.cells, List.mem_cons, List.not_mem_nil, or_false] at hv
  rcases hv with rfl <;> rfl
def te236 : TE := { td := .other, sz := 1, by_ := 8, zs := [.junk] }
theorem ok236 : OkT 236 te236 := by
  refine ⟨_, Try.t236, _, Try.underlying236, ⟨(fun _ h => by cases h), (fun _ _ h => by cases h)⟩, by kernel_rfl, rfl, rfl, rfl, rfl, fun μ H => ⟨trivial, trivial⟩, ?_⟩
  intro v hv
  simp only [Value.cells, List.mem_cons, List.not_mem_nil, or_false] at hv
  rcases hv with rfl <;> rfl
def te237 : TE := { td := .other, sz := 1, by_ := 8, zs := [.junk] }
theorem ok237 : OkT 237 te237 := by
  refine ⟨_, Try.t237, _, Try.underlying237, ⟨(fun _ h => by cases h), (fun _ _ h => by cases h)⟩, by kernel_rfl, rfl, rfl, rfl, rfl, fun μ H => ⟨trivial, trivial⟩, ?_⟩
  intro v hv
  simp only [Value.cells, List.mem_cons, List.not_mem_nil, or_false] at hv
  rcases hv with rfl <;> rfl
def te238 : TE := { td := .other, sz := 1, by_ := 8, zs := [.junk] }
theorem ok238 : OkT 238 te238 := by
  refine ⟨_, Try.t238, _, Try.underlying238, ⟨(fun _ h => by cases h), (fun _ _ h => by cases h)⟩, by kernel_rfl, rfl, rfl, rfl, rfl, fun μ H => ⟨trivial, trivial⟩, ?_⟩
  intro v hv
  simp only [Value.cells, List.mem_cons, List.not_mem_nil, or_false] at hv
  rcases hv with rfl <;> rfl
def te239 : TE := { td := .int .u64, sz := 1, by_ := 8, zs := [.int .u64 0] }
theorem ok239 : OkT 239 te239 := by
  refine ⟨_, Try.t239, _, Try.underlying239, rfl, by kernel_rfl, rfl, rfl, rfl, rfl, fun μ H => ⟨rfl, trivial⟩, ?_⟩
  intro v hv
  simp only [Value.cells, List.mem_cons, List.not_mem_nil, or_false] at hv
  rcases hv with rfl <;> rfl
def te240 : TE := { td := .other, sz := 1, by_ := 8, zs := [.junk] }
theorem ok240 : OkT 240 te240 := by
  refine ⟨_, Try.t240, _, Try.underlying240, ⟨(fun _ h => by cases h), (fun _ _ h => by cases h)⟩, by kernel_rfl, rfl, rfl, rfl, rfl, fun μ H => ⟨trivial, trivial⟩, ?_⟩
  intro v hv
  simp only [Value.cells, List.mem_cons, List.not_mem_nil, or_false] at hv
  rcases hv with rfl <;> rfl
def te241 : TE := { td := .other, sz := 1, by_ := 8, zs := [.junk] }
theorem ok241 : OkT 241 te241 := by
  refine ⟨_, Try.t241, _, Try.underlying241, ⟨(fun _ h => by cases h), (fun _ _ h => by cases h)⟩, by kernel_rfl, rfl, rfl, rfl, rfl, fun μ H => ⟨trivial, trivial⟩, ?_⟩
  intro v hv
  simp only [Value.cells, List.mem_cons, List.not_mem_nil, or_false] at hv
  rcases hv with rfl <;> rfl
def te242 : TE := { td := .other, sz := 1, by_ := 8, zs := [.junk] }
theorem ok242 : OkT 242 te242 := by
  refine ⟨_, Try.t242, _, Try.underlying242, ⟨(fun _ h => by cases h), (fun _ _ h => by cases h)⟩, by kernel_rfl, rfl, rfl, rfl, rfl, fun μ H => ⟨trivial, trivial⟩, ?_⟩
  intro v hv
  simp only [Value.cells, List.mem_cons, List.not_mem_nil, or_false] at hv
  rcases hv with rfl <;> rfl
def te243 : TE := { td := .ptr 3, sz := 1, by_ := 8, zs := [.junk] }
theorem ok243 : OkT 243 te243 := by
  refine ⟨_, Try.t243, _, Try.underlying243, rfl, by kernel_rfl, rfl, rfl, rfl, rfl, fun μ H => ⟨trivial, trivial⟩, ?_⟩
  intro v hv
  simp only [Value.cells, List.mem_cons, List.not_mem_nil, or_false] at hv
  rcases hv with rfl <;> rfl
def te244 : TE := { td := .other, sz := 1, by_ := 8, zs := [.junk] }
theorem ok244 : OkT 244 te244 := by
  refine ⟨_, Try.t244, _, Try.underlying244, ⟨(fun _ h => by cases h), (fun _ _ h => by cases h)⟩, by kernel_rfl, rfl, rfl, rfl, rfl, fun μ H => ⟨trivial, trivial⟩, ?_⟩
  intro v hv
  simp only [Value.cells, List.mem_cons, List.not_mem_nil, or_false] at hv
  rcases hv with rfl <;> rfl
def te245 : TE := { td := .other, sz := 1, by_ := 8, zs := [.junk] }
theorem ok245 : OkT 245 te245 := by
  refine ⟨_, Try.t245, _, Try.underlying245, ⟨(fun _ h => by cases h), (fun _ _ h => by cases h)⟩, by kernel_rfl, rfl, rfl, rfl, rfl, fun μ H => ⟨trivial, trivial⟩, ?_⟩
  intro v hv
  simp only [Value.cells, List.mem_cons, List.not_mem_nil, or_false] at hv
  rcases hv with rfl <;> rfl
def te246 : TE := { td := .other, sz := 1, by_ := 8, zs := [.junk] }
theorem ok246 : OkT 246 te246 := by
  refine ⟨_, Try.t246, _, Try.underlying246, ⟨(fun _ h => by cases h), (fun _ _ h => by cases h)⟩, by kernel_rfl, rfl, rfl, rfl, rfl, fun μ H => ⟨trivial, trivial⟩, ?_⟩
  intro v hv
  simp only [Value.cells, List.mem_cons, List.not_mem_nil, or_false] at hv
  rcases hv with rfl <;> rfl
def te247 : TE := { td := .ptr 239, sz := 1, by_ := 8, zs := [.junk] }
theorem ok247 : OkT 247 te247 := by
  refine ⟨_, Try.t247, _, Try.underlying247, rfl, by kernel_rfl, rfl, rfl, rfl, rfl, fun μ H => ⟨trivial, trivial⟩, ?_⟩
  intro v hv
  simp only [Value.cells, List.mem_cons, List.not_mem_nil, or_false] at hv
  rcases hv with rfl <;> rfl
def te249 : TE := { td := .other, sz := 1, by_ := 8, zs := [.junk] }
theorem ok249 : OkT 249 te249 := by
  refine ⟨_, Try.t249, _, Try.underlying249, ⟨(fun _ h => by cases h), (fun _ _ h => by cases h)⟩, by kernel_rfl, rfl, rfl, rfl, rfl, fun μ H => ⟨trivial, trivial⟩, ?_⟩
  intro v hv
  simp only [Value.cells, List.mem_cons, List.not_mem_nil, or_false] at hv
  rcases hv with rfl <;> rfl
def te250 : TE := { td := .other, sz := 1, by_ := 8, zs := [.junk] }
theorem ok250 : OkT 250 te250 := by
  refine ⟨_, Try.t250, _, Try.underlying250, ⟨(fun _ h => by cases h), (fun _ _ h => by cases h)⟩, by kernel_rfl, rfl, rfl, rfl, rfl, fun μ H => ⟨trivial, trivial⟩, ?_⟩
  intro v hv
  simp only [Value.cells, List.mem_cons, List.not_mem_nil, or_false] at hv
  rcases hv with rfl <;> rfl
def te251 : TE := { td := .other, sz := 1, by_ := 8, zs := [.junk] }
theorem ok251 : OkT 251 te251 := by
  refine ⟨_, Try.t251, _, Try.underlying251, ⟨(fun _ h => by cases h), (fun _ _ h => by cases h)⟩, by kernel_rfl, rfl, rfl, rfl, rfl, fun μ H => ⟨trivial, trivial⟩, ?_⟩
  intro v hv
  simp only [Value.cells, List.mem_cons, List.not_mem_nil, or_false] at hv
  rcases hv with rfl <;> rfl
def te252 : TE := { td := .other, sz := 1, by_ := 8, zs := [.junk] }
theorem ok252 : OkT 252 te252 := by
  refine ⟨_, Try.t252, _, Try.underlying252, ⟨(fun _ h => by cases h), (fun _ _ h => by cases h)⟩, by kernel_rfl, rfl, rfl, rfl, rfl, fun μ H => ⟨trivial, trivial⟩, ?_⟩
  intro v hv
  simp only [Value.cells, List.mem_cons, List.not_mem_nil, or_false] at hv
  rcases hv with rfl <;> rfl
def te253 : TE := { td := .other, sz := 1, by_ := 8, zs := [.junk] }
theorem ok253 : OkT 253 te253 := by
  refine ⟨_, Try.t253, _, Try.underlying253, ⟨(fun _ h => by cases h), (fun _ _ h => by cases h)⟩, by kernel_rfl, rfl, rfl, rfl, rfl, fun μ H => ⟨trivial, trivial⟩, ?_⟩
  intro v hv
  simp only [Value.cells, List.mem_cons, List.not_mem_nil, or_false] at hv
  rcases hv with rfl <;> rfl
def te255 : TE := { td := .other, sz := 1, by_ := 8, zs := [.junk] }
theorem ok255 : OkT 255 te255 := by
  refine ⟨_, Try.t255, _, Try.underlying255, ⟨(fun _ h => by cases h), (fun _ _ h => by cases h)⟩, by kernel_rfl, rfl, rfl, rfl, rfl, fun μ H => ⟨trivial, trivial⟩, ?_⟩
  intro v hv
  simp only [Value.cells, List.mem_cons, List.not_mem_nil, or_false] at hv
  rcases hv with rfl <;> rfl
def te256 : TE := { td := .other, sz := 1, by_ := 8, zs := [.junk] }
theorem ok256 : OkT 256 te256 := by
  refine ⟨_, Try.t256, _, Try.underlying256, ⟨(fun _ h => by cases h), (fun _ _ h => by cases h)⟩, by kernel_rfl, rfl, rfl, rfl, rfl, fun μ H => ⟨trivial, trivial⟩, ?_⟩
  intro v hv
  simp only [Value.cells, List.mem_cons, List.not_mem_nil, or_false] at hv
  rcases hv with rfl <;> rfl
def te257 : TE := { td := .other, sz := 1, by_ := 8, zs := [.junk] }
theorem ok257 : OkT 257 te257 := by
  refine ⟨_, Try.t257, _, Try.underlying257, ⟨(fun _ h => by cases h), (fun _ _ h => by cases h)⟩, by kernel_rfl, rfl, rfl, rfl, rfl, fun μ H => ⟨trivial, trivial⟩, ?_⟩
  intro v hv
  simp only [Value.cells, List.mem_cons, List.not_mem_nil, or_false] at hv
  rcases hv with rfl <;> rfl
def te258 : TE := { td := .other, sz := 1, by_ := 8, zs := [.junk] }
theorem ok258 : OkT 258 te258 := by
  refine ⟨_, Try.t258, _, Try.underlying258, ⟨(fun _ h => by cases h), (fun _ _ h => by cases h)⟩, by kernel_rfl, rfl, rfl, rfl, rfl, fun μ H => ⟨trivial, trivial⟩, ?_⟩
  intro v hv
  simp only [Value.cells, List.mem_cons, List.not_mem_nil, or_false] at hv
  rcases hv with rfl <;> rfl
def te264 : TE := { td := .other, sz := 1, by_ := 8, zs := [.junk] }
theorem ok264 : OkT 264 te264 := by
  refine ⟨_, Try.t264, _, Try.underlying264, ⟨(fun _ h => by cases h), (fun _ _ h => by cases h)⟩, by kernel_rfl, rfl, rfl, rfl, rfl, fun μ H => ⟨trivial, trivial⟩, ?_⟩
  intro v hv
  simp only [Value.cells, List.mem_cons, List.not_mem_nil, or_false] at hv
  rcases hv with rfl <;> rfl
def te268 : TE := { td := .ptr 5, sz := 1, by_ := 8, zs := [.junk] }
theorem ok268 : OkT 268 te268 := by
  refine ⟨_, Try.t268, _, Try.underlying268, rfl, by kernel_rfl, rfl, rfl, rfl, rfl, fun μ H => ⟨trivial, trivial⟩, ?_⟩
  intro v hv
  simp only [Value.cells, List.mem_cons, List.not_mem_nil, or_false] at hv
  rcases hv with rfl <;> rfl

def Tl : List (TypeId × TE) := [(1, te1), (2, te2), (3, te3), (4, te4), (5, te5), (21, te21), (22, te22), (23, te23), (24, te24), (25, te25), (26, te26), (27, te27), (28, te28), (30, te30), (31, te31), (32, te32), (34, te34), (35, te35), (36, te36), (37, te37), (39, te39), (40, te40), (41, te41), (42, te42), (43, te43), (44, te44), (45, te45), (47, te47), (48, te48), (49, te49), (50, te50), (51, te51), (52, te52), (53, te53), (55, te55), (56, te56), (57, te57), (59, te59), (60, te60), (61, te61), (62, te62), (63, te63), (64, te64), (66, te66), (67, te67), (68, te68), (69, te69), (70, te70), (71, te71), (73, te73), (74, te74), (75, te75), (76, te76), (78, te78), (80, te80), (81, te81), (82, te82), (84, te84), (85, te85), (86, te86), (87, te87), (88, te88), (89, te89), (90, te90), (91, te91), (92, te92), (94, te94), (95, te95), (96, te96), (97, te97), (98, te98), (99, te99), (100, te100), (101, te101), (102, te102), (103, te103), (104, te104), (105, te105), (106, te106), (108, te108), (109, te109), (110, te110), (111, te111), (112, te112), (113, te113), (114, te114), (115, te115), (116, te116), (117, te117), (118, te118), (119, te119), (120, te120), (121, te121), (122, te122), (123, te123), (124, te124), (125, te125), (126, te126), (127, te127), (128, te128), (129, te129), (131, te131), (132, te132), (133, te133), (134, te134), (135, te135), (136, te136), (137, te137), (138, te138), (139, te139), (140, te140), (141, te141), (142, te142), (143, te143), (144, te144), (145, te145), (146, te146), (147, te147), (148, te148), (149, te149), (150, te150), (152, te152), (153, te153), (154, te154), (155, te155), (156, te156), (157, te157), (158, te158), (159, te159), (160, te160), (161, te161), (163, te163), (164, te164), (165, te165), (166, te166), (167, te167), (168, te168), (169, te169), (170, te170), (171, te171), (172, te172), (173, te173), (174, te174), (175, te175), (176, te176), (177, te177), (178, te178), (179, te179), (180, te180), (181, te181), (182, te182), (183, te183), (184, te184), (185, te185), (186, te186), (188, te188), (189, te189), (190, te190), (192, te192), (194, te194), (195, te195), (196, te196), (197, te197), (198, te198), (199, te199), (200, te200), (201, te201), (202, te202), (203, te203), (204, te204), (205, te205), (206, te206), (207, te207), (208, te208), (209, te209), (210, te210), (211, te211), (212, te212), (213, te213), (214, te214), (215, te215), (216, te216), (217, te217), (218, te218), (219, te219), (220, te220), (221, te221), (222, te222), (223, te223), (224, te224), (225, te225), (226, te226), (228, te228), (229, te229), (230, te230), (231, te231), (233, te233), (234, te234), (235, te235), (236, te236), (237, te237), (238, te238), (239, te239), (240, te240), (241, te241), (242, te242), (243, te243), (244, te244), (245, te245), (246, te246), (247, te247), (249, te249), (250, te250), (251, te251), (252, te252), (253, te253), (255, te255), (256, te256), (257, te257), (258, te258), (264, te264), (268, te268)]
def Ty : Tab := fun t => (Tl.find? fun p => p.1 == t).map (·.2)
theorem allT : AllT Tl := ⟨ok1, ⟨ok2, ⟨ok3, ⟨ok4, ⟨ok5, ⟨ok21, ⟨ok22, ⟨ok23, ⟨ok24, ⟨ok25, ⟨ok26, ⟨ok27, ⟨ok28, ⟨ok30, ⟨ok31, ⟨ok32, ⟨ok34, ⟨ok35, ⟨ok36, ⟨ok37, ⟨ok39, ⟨ok40, ⟨ok41, ⟨ok42, ⟨ok43, ⟨ok44, ⟨ok45, ⟨ok47, ⟨ok48, ⟨ok49, ⟨ok50, ⟨ok51, ⟨ok52, ⟨ok53, ⟨ok55, ⟨ok56, ⟨ok57, ⟨ok59, ⟨ok60, ⟨ok61, ⟨ok62, ⟨ok63, ⟨ok64, ⟨ok66, ⟨ok67, ⟨ok68, ⟨ok69, ⟨ok70, ⟨ok71, ⟨ok73, ⟨ok74, ⟨ok75, ⟨ok76, ⟨ok78, ⟨ok80, ⟨ok81, ⟨ok82, ⟨ok84, ⟨ok85, ⟨ok86, ⟨ok87, ⟨ok88, ⟨ok89, ⟨ok90, ⟨ok91, ⟨ok92, ⟨ok94, ⟨ok95, ⟨ok96, ⟨ok97, ⟨ok98, ⟨ok99, ⟨ok100, ⟨ok101, ⟨ok102, ⟨ok103, ⟨ok104, ⟨ok105, ⟨ok106, ⟨ok108, ⟨ok109, ⟨ok110, ⟨ok111, ⟨ok112, ⟨ok113, ⟨ok114, ⟨ok115, ⟨ok116, ⟨ok117, ⟨ok118, ⟨ok119, ⟨ok120, ⟨ok121, ⟨ok122, ⟨ok123, ⟨ok124, ⟨ok125, ⟨ok126, ⟨ok127, ⟨ok128, ⟨ok129, ⟨ok131, ⟨ok132, ⟨ok133, ⟨ok134, ⟨ok135, ⟨ok136, ⟨ok137, ⟨ok138, ⟨ok139, ⟨ok140, ⟨ok141, ⟨ok142, ⟨ok143, ⟨ok144, ⟨ok145, ⟨ok146, ⟨ok147, ⟨ok148, ⟨ok149, ⟨ok150, ⟨ok152, ⟨ok153, ⟨ok154, ⟨ok155, ⟨ok156, ⟨ok157, ⟨ok158, ⟨ok159, ⟨ok160, ⟨ok161, ⟨ok163, ⟨ok164, ⟨ok165, ⟨ok166, ⟨ok167, ⟨ok168, ⟨ok169, ⟨ok170, ⟨ok171, ⟨ok172, ⟨ok173, ⟨ok174, ⟨ok175, ⟨ok176, ⟨ok177, ⟨ok178, ⟨ok179, ⟨ok180, ⟨ok181, ⟨ok182, ⟨ok183, ⟨ok184, ⟨ok185, ⟨ok186, ⟨ok188, ⟨ok189, ⟨ok190, ⟨ok192, ⟨ok194, ⟨ok195, ⟨ok196, ⟨ok197, ⟨ok198, ⟨ok199, ⟨ok200, ⟨ok201, ⟨ok202, ⟨ok203, ⟨ok204, ⟨ok205, ⟨ok206, ⟨ok207, ⟨ok208, ⟨ok209, ⟨ok210, ⟨ok211, ⟨ok212, ⟨ok213, ⟨ok214, ⟨ok215, ⟨ok216, ⟨ok217, ⟨ok218, ⟨ok219, ⟨ok220, ⟨ok221, ⟨ok222, ⟨ok223, ⟨ok224, ⟨ok225, ⟨ok226, ⟨ok228, ⟨ok229, ⟨ok230, ⟨ok231, ⟨ok233, ⟨ok234, ⟨ok235, ⟨ok236, ⟨ok237, ⟨ok238, ⟨ok239, ⟨ok240, ⟨ok241, ⟨ok242, ⟨ok243, ⟨ok244, ⟨ok245, ⟨ok246, ⟨ok247, ⟨ok249, ⟨ok250, ⟨ok251, ⟨ok252, ⟨ok253, ⟨ok255, ⟨ok256, ⟨ok257, ⟨ok258, ⟨ok264, ⟨ok268, trivial⟩⟩⟩⟩⟩⟩⟩⟩⟩⟩⟩⟩⟩⟩⟩⟩⟩⟩⟩⟩⟩⟩⟩⟩⟩⟩⟩⟩⟩⟩⟩⟩⟩⟩⟩⟩⟩⟩⟩⟩⟩⟩⟩⟩⟩⟩⟩⟩⟩⟩⟩⟩⟩⟩⟩⟩⟩⟩⟩⟩⟩⟩⟩⟩⟩⟩⟩⟩⟩⟩⟩⟩⟩⟩⟩⟩⟩⟩⟩⟩⟩⟩⟩⟩⟩⟩⟩⟩⟩⟩⟩⟩⟩⟩⟩⟩⟩⟩⟩⟩⟩⟩⟩⟩⟩⟩⟩⟩⟩⟩⟩⟩⟩⟩⟩⟩⟩⟩⟩⟩⟩⟩⟩⟩⟩⟩⟩⟩⟩⟩⟩⟩⟩⟩⟩⟩⟩⟩⟩⟩⟩⟩⟩⟩⟩⟩⟩⟩⟩⟩⟩⟩⟩⟩⟩⟩⟩⟩⟩⟩⟩⟩⟩⟩⟩⟩⟩⟩⟩⟩⟩⟩⟩⟩⟩⟩⟩⟩⟩⟩⟩⟩⟩⟩⟩⟩⟩⟩⟩⟩⟩⟩⟩⟩⟩⟩⟩⟩⟩⟩⟩⟩⟩⟩⟩⟩⟩⟩⟩⟩⟩⟩⟩⟩⟩⟩⟩⟩⟩⟩⟩⟩
theorem tyOk : TabOk Try.prog Ty := by
  intro t e h
  unfold Ty at h
  simp only [Option.map_eq_some_iff] at h
  obtain ⟨p, hp, rfl⟩ := h
  have h1 := List.find?_some hp
  have h2 := List.mem_of_find?_eq_some hp
  have h3 : p.1 = t := by simpa using h1
  subst h3
  exact allT_mem allT p h2
@[go_sem] theorem Ty_1 : Ty 1 = some { td := .other, sz := 1, by_ := 8, zs := [.junk] } := by kernel_rfl
@[go_sem] theorem Ty_2 : Ty 2 = some { td := .int .i64, sz := 1, by_ := 8, zs := [.int .i64 0] } := by kernel_rfl
@[go_sem] theorem Ty_3 : Ty 3 = some { td := .int .i64, sz := 1, by_ := 8, zs := [.int .i64 0] } := by kernel_rfl
@[go_sem] theorem Ty_4 : Ty 4 = some { td := .bool, sz := 1, by_ := 1, zs := [.bool false] } := by kernel_rfl
@[go_sem] theorem Ty_5 : Ty 5 = some { td := .int .u8, sz := 1, by_ := 1, zs := [.int .u8 0] } := by kernel_rfl
@[go_sem] theorem Ty_21 : Ty 21 = some { td := .int .i32, sz := 1, by_ := 4, zs := [.int .i32 0] } := by kernel_rfl
@[go_sem] theorem Ty_22 : Ty 22 = some { td := .slice 5, sz := 1, by_ := 24, zs := [.nils] } := by kernel_rfl
@[go_sem] theorem Ty_23 : Ty 23 = some { td := .other, sz := 1, by_ := 8, zs := [.junk] } := by kernel_rfl
@[go_sem] theorem Ty_24 : Ty 24 = some { td := .slice 2, sz := 1, by_ := 24, zs := [.nils] } := by kernel_rfl
@[go_sem] theorem Ty_25 : Ty 25 = some { td := .other, sz := 1, by_ := 8, zs := [.junk] } := by kernel_rfl
@[go_sem] theorem Ty_26 : Ty 26 = some { td := .other, sz := 1, by_ := 8, zs := [.junk] } := by kernel_rfl
@[go_sem] theorem Ty_27 : Ty 27 = some { td := .struct [(0, 2), (1, 24)], sz := 2, by_ := 32, zs := [.int .i64 0, .nils] } := by kernel_rfl
@[go_sem] theorem Ty_28 : Ty 28 = some { td := .struct [(0, 2), (1, 24)], sz := 2, by_ := 32, zs := [.int .i64 0, .nils] } := by kernel_rfl
@[go_sem] theorem Ty_30 : Ty 30 = some { td := .other, sz := 1, by_ := 8, zs := [.junk] } := by kernel_rfl
@[go_sem] theorem Ty_31 : Ty 31 = some { td := .other, sz := 1, by_ := 8, zs := [.junk] } := by kernel_rfl
@[go_sem] theorem Ty_32 : Ty 32 = some { td := .flt .f32, sz := 1, by_ := 4, zs := [.flt .f32 (some 0)] } := by kernel_rfl
@[go_sem] theorem Ty_34 : Ty 34 = some { td := .other, sz := 1, by_ := 8, zs := [.junk] } := by kernel_rfl
@[go_sem] theorem Ty_35 : Ty 35 = some { td := .other, sz := 1, by_ := 8, zs := [.junk] } := by kernel_rfl
@[go_sem] theorem Ty_36 : Ty 36 = some { td := .other, sz := 1, by_ := 8, zs := [.junk] } := by kernel_rfl
@[go_sem] theorem Ty_37 : Ty 37 = some { td := .flt .f64, sz := 1, by_ := 8, zs := [.flt .f64 (some 0)] } := by kernel_rfl
@[go_sem] theorem Ty_39 : Ty 39 = some { td := .other, sz := 1, by_ := 8, zs := [.junk] } := by kernel_rfl
@[go_sem] theorem Ty_40 : Ty 40 = some { td := .other, sz := 1, by_ := 8, zs := [.junk] } := by kernel_rfl
@[go_sem] theorem Ty_41 : Ty 41 = some { td := .other, sz := 1, by_ := 8, zs := [.junk] } := by kernel_rfl
@[go_sem] theorem Ty_42 : Ty 42 = some { td := .other, sz := 1, by_ := 8, zs := [.junk] } := by kernel_rfl
@[go_sem] theorem Ty_43 : Ty 43 = some { td := .other, sz := 1, by_ := 8, zs := [.junk] } := by kernel_rfl
@[go_sem] theorem Ty_44 : Ty 44 = some { td := .struct [(0, 2), (1, 24), (2, 24), (3, 24)], sz := 4, by_ := 80, zs := [.int .i64 0, .nils, .nils, .nils] } := by kernel_rfl
@[go_sem] theorem Ty_45 : Ty 45 = some { td := .struct [(0, 2), (1, 24), (2, 24), (3, 24)], sz := 4, by_ := 80, zs := [.int .i64 0, .nils, .nils, .nils] } := by kernel_rfl
@[go_sem] theorem Ty_47 : Ty 47 = some { td := .other, sz := 1, by_ := 8, zs := [.junk] } := by kernel_rfl
@[go_sem] theorem Ty_48 : Ty 48 = some { td := .other, sz := 1, by_ := 8, zs := [.junk] } := by kernel_rfl
@[go_sem] theorem Ty_49 : Ty 49 = some { td := .other, sz := 1, by_ := 8, zs := [.junk] } := by kernel_rfl
@[go_sem] theorem Ty_50 : Ty 50 = some { td := .other, sz := 1, by_ := 8, zs := [.junk] } := by kernel_rfl
@[go_sem] theorem Ty_51 : Ty 51 = some { td := .other, sz := 1, by_ := 8, zs := [.junk] } := by kernel_rfl
@[go_sem] theorem Ty_52 : Ty 52 = some { td := .other, sz := 1, by_ := 8, zs := [.junk] } := by kernel_rfl
@[go_sem] theorem Ty_53 : Ty 53 = some { td := .other, sz := 1, by_ := 8, zs := [.junk] } := by kernel_rfl
@[go_sem] theorem Ty_55 : Ty 55 = some { td := .other, sz := 1, by_ := 8, zs := [.junk] } := by kernel_rfl
@[go_sem] theorem Ty_56 : Ty 56 = some { td := .slice 32, sz := 1, by_ := 24, zs := [.nils] } := by kernel_rfl
@[go_sem] theorem Ty_57 : Ty 57 = some { td := .other, sz := 1, by_ := 8, zs := [.junk] } := by kernel_rfl
@[go_sem] theorem Ty_59 : Ty 59 = some { td := .other, sz := 1, by_ := 8, zs := [.junk] } := by kernel_rfl
@[go_sem] theorem Ty_60 : Ty 60 = some { td := .other, sz := 1, by_ := 8, zs := [.junk] } := by kernel_rfl
@[go_sem] theorem Ty_61 : Ty 61 = some { td := .other, sz := 1, by_ := 8, zs := [.junk] } := by kernel_rfl
@[go_sem] theorem Ty_62 : Ty 62 = some { td := .slice 4, sz := 1, by_ := 24, zs := [.nils] } := by kernel_rfl
@[go_sem] theorem Ty_63 : Ty 63 = some { td := .struct [(0, 2), (1, 2), (2, 62)], sz := 3, by_ := 40, zs := [.int .i64 0, .int .i64 0, .nils] } := by kernel_rfl
@[go_sem] theorem Ty_64 : Ty 64 = some { td := .struct [(0, 2), (1, 2), (2, 62)], sz := 3, by_ := 40, zs := [.int .i64 0, .int .i64 0, .nils] } := by kernel_rfl
@[go_sem] theorem Ty_66 : Ty 66 = some { td := .other, sz := 1, by_ := 8, zs := [.junk] } := by kernel_rfl
@[go_sem] theorem Ty_67 : Ty 67 = some { td := .other, sz := 1, by_ := 8, zs := [.junk] } := by kernel_rfl
@[go_sem] theorem Ty_68 : Ty 68 = some { td := .other, sz := 1, by_ := 8, zs := [.junk] } := by kernel_rfl
@[go_sem] theorem Ty_69 : Ty 69 = some { td := .other, sz := 1, by_ := 8, zs := [.junk] } := by kernel_rfl
@[go_sem] theorem Ty_70 : Ty 70 = some { td := .other, sz := 1, by_ := 8, zs := [.junk] } := by kernel_rfl
@[go_sem] theorem Ty_71 : Ty 71 = some { td := .other, sz := 1, by_ := 8, zs := [.junk] } := by kernel_rfl
@[go_sem] theorem Ty_73 : Ty 73 = some { td := .other, sz := 1, by_ := 8, zs := [.junk] } := by kernel_rfl
@[go_sem] theorem Ty_74 : Ty 74 = some { td := .other, sz := 1, by_ := 8, zs := [.junk] } := by kernel_rfl
@[go_sem] theorem Ty_75 : Ty 75 = some { td := .struct [(0, 2), (1, 2), (2, 24)], sz := 3, by_ := 40, zs := [.int .i64 0, .int .i64 0, .nils] } := by kernel_rfl
@[go_sem] theorem Ty_76 : Ty 76 = some { td := .struct [(0, 2), (1, 2), (2, 24)], sz := 3, by_ := 40, zs := [.int .i64 0, .int .i64 0, .nils] } := by kernel_rfl
@[go_sem] theorem Ty_78 : Ty 78 = some { td := .other, sz := 1, by_ := 8, zs := [.junk] } := by kernel_rfl
@[go_sem] theorem Ty_80 : Ty 80 = some { td := .other, sz := 1, by_ := 8, zs := [.junk] } := by kernel_rfl
@[go_sem] theorem Ty_81 : Ty 81 = some { td := .struct [(0, 2), (1, 56), (2, 24)], sz := 3, by_ := 56, zs := [.int .i64 0, .nils, .nils] } := by kernel_rfl
@[go_sem] theorem Ty_82 : Ty 82 = some { td := .struct [(0, 2), (1, 56), (2, 24)], sz := 3, by_ := 56, zs := [.int .i64 0, .nils, .nils] } := by kernel_rfl
@[go_sem] theorem Ty_84 : Ty 84 = some { td := .other, sz := 1, by_ := 8, zs := [.junk] } := by kernel_rfl
@[go_sem] theorem Ty_85 : Ty 85 = some { td := .other, sz := 1, by_ := 8, zs := [.junk] } := by kernel_rfl
@[go_sem] theorem Ty_86 : Ty 86 = some { td := .other, sz := 1, by_ := 8, zs := [.junk] } := by kernel_rfl
@[go_sem] theorem Ty_87 : Ty 87 = some { td := .other, sz := 1, by_ := 8, zs := [.junk] } := by kernel_rfl
@[go_sem] theorem Ty_88 : Ty 88 = some { td := .slice 56, sz := 1, by_ := 24, zs := [.nils] } := by kernel_rfl
@[go_sem] theorem Ty_89 : Ty 89 = some { td := .struct [(0, 2), (1, 2), (2, 88)], sz := 3, by_ := 40, zs := [.int .i64 0, .int .i64 0, .nils] } := by kernel_rfl
@[go_sem] theorem Ty_90 : Ty 90 = some { td := .struct [(0, 2), (1, 2), (2, 88)], sz := 3, by_ := 40, zs := [.int .i64 0, .int .i64 0, .nils] } := by kernel_rfl
@[go_sem] theorem Ty_91 : Ty 91 = some { td := .other, sz := 1, by_ := 8, zs := [.junk] } := by kernel_rfl
@[go_sem] theorem Ty_92 : Ty 92 = some { td := .struct [(0, 2), (1, 2), (2, 88)], sz := 3, by_ := 40, zs := [.int .i64 0, .int .i64 0, .nils] } := by kernel_rfl
@[go_sem] theorem Ty_94 : Ty 94 = some { td := .other, sz := 1, by_ := 8, zs := [.junk] } := by kernel_rfl
@[go_sem] theorem Ty_95 : Ty 95 = some { td := .other, sz := 1, by_ := 8, zs := [.junk] } := by kernel_rfl
@[go_sem] theorem Ty_96 : Ty 96 = some { td := .other, sz := 1, by_ := 8, zs := [.junk] } := by kernel_rfl
@[go_sem] theorem Ty_97 : Ty 97 = some { td := .other, sz := 1, by_ := 8, zs := [.junk] } := by kernel_rfl
@[go_sem] theorem Ty_98 : Ty 98 = some { td := .other, sz := 1, by_ := 8, zs := [.junk] } := by kernel_rfl
@[go_sem] theorem Ty_99 : Ty 99 = some { td := .other, sz := 1, by_ := 8, zs := [.junk] } := by kernel_rfl
@[go_sem] theorem Ty_100 : Ty 100 = some { td := .other, sz := 1, by_ := 8, zs := [.junk] } := by kernel_rfl
@[go_sem] theorem Ty_101 : Ty 101 = some { td := .other, sz := 1, by_ := 8, zs := [.junk] } := by kernel_rfl
@[go_sem] theorem Ty_102 : Ty 102 = some { td := .other, sz := 1, by_ := 8, zs := [.junk] } := by kernel_rfl
@[go_sem] theorem Ty_103 : Ty 103 = some { td := .other, sz := 1, by_ := 8, zs := [.junk] } := by kernel_rfl
@[go_sem] theorem Ty_104 : Ty 104 = some { td := .other, sz := 1, by_ := 8, zs := [.junk] } := by kernel_rfl
@[go_sem] theorem Ty_105 : Ty 105 = some { td := .other, sz := 1, by_ := 8, zs := [.junk] } := by kernel_rfl
@[go_sem] theorem Ty_106 : Ty 106 = some { td := .struct [(0, 2), (1, 24)], sz := 2, by_ := 32, zs := [.int .i64 0, .nils] } := by kernel_rfl
@[go_sem] theorem Ty_108 : Ty 108 = some { td := .other, sz := 1, by_ := 8, zs := [.junk] } := by kernel_rfl
@[go_sem] theorem Ty_109 : Ty 109 = some { td := .other, sz := 1, by_ := 8, zs := [.junk] } := by kernel_rfl
@[go_sem] theorem Ty_110 : Ty 110 = some { td := .other, sz := 1, by_ := 8, zs := [.junk] } := by kernel_rfl
@[go_sem] theorem Ty_111 : Ty 111 = some { td := .other, sz := 1, by_ := 8, zs := [.junk] } := by kernel_rfl
@[go_sem] theorem Ty_112 : Ty 112 = some { td := .other, sz := 1, by_ := 8, zs := [.junk] } := by kernel_rfl
@[go_sem] theorem Ty_113 : Ty 113 = some { td := .other, sz := 1, by_ := 8, zs := [.junk] } := by kernel_rfl
@[go_sem] theorem Ty_114 : Ty 114 = some { td := .other, sz := 1, by_ := 8, zs := [.junk] } := by kernel_rfl
@[go_sem] theorem Ty_115 : Ty 115 = some { td := .ptr 197, sz := 1, by_ := 8, zs := [.junk] } := by kernel_rfl
@[go_sem] theorem Ty_116 : Ty 116 = some { td := .other, sz := 1, by_ := 8, zs := [.junk] } := by kernel_rfl
@[go_sem] theorem Ty_117 : Ty 117 = some { td := .other, sz := 1, by_ := 8, zs := [.junk] } := by kernel_rfl
@[go_sem] theorem Ty_118 : Ty 118 = some { td := .other, sz := 1, by_ := 8, zs := [.junk] } := by kernel_rfl
@[go_sem] theorem Ty_119 : Ty 119 = some { td := .other, sz := 1, by_ := 8, zs := [.junk] } := by kernel_rfl
@[go_sem] theorem Ty_120 : Ty 120 = some { td := .other, sz := 1, by_ := 8, zs := [.junk] } := by kernel_rfl
@[go_sem] theorem Ty_121 : Ty 121 = some { td := .other, sz := 1, by_ := 8, zs := [.junk] } := by kernel_rfl
@[go_sem] theorem Ty_122 : Ty 122 = some { td := .other, sz := 1, by_ := 8, zs := [.junk] } := by kernel_rfl
@[go_sem] theorem Ty_123 : Ty 123 = some { td := .other, sz := 1, by_ := 8, zs := [.junk] } := by kernel_rfl
@[go_sem] theorem Ty_124 : Ty 124 = some { td := .other, sz := 1, by_ := 8, zs := [.junk] } := by kernel_rfl
@[go_sem] theorem Ty_125 : Ty 125 = some { td := .other, sz := 1, by_ := 8, zs := [.junk] } := by kernel_rfl
@[go_sem] theorem Ty_126 : Ty 126 = some { td := .other, sz := 1, by_ := 8, zs := [.junk] } := by kernel_rfl
@[go_sem] theorem Ty_127 : Ty 127 = some { td := .other, sz := 1, by_ := 8, zs := [.junk] } := by kernel_rfl
@[go_sem] theorem Ty_128 : Ty 128 = some { td := .other, sz := 1, by_ := 8, zs := [.junk] } := by kernel_rfl
@[go_sem] theorem Ty_129 : Ty 129 = some { td := .other, sz := 1, by_ := 8, zs := [.junk] } := by kernel_rfl
@[go_sem] theorem Ty_131 : Ty 131 = some { td := .other, sz := 1, by_ := 8, zs := [.junk] } := by kernel_rfl
@[go_sem] theorem Ty_132 : Ty 132 = some { td := .other, sz := 1, by_ := 8, zs := [.junk] } := by kernel_rfl
@[go_sem] theorem Ty_133 : Ty 133 = some { td := .other, sz := 1, by_ := 8, zs := [.junk] } := by kernel_rfl
@[go_sem] theorem Ty_134 : Ty 134 = some { td := .other, sz := 1, by_ := 8, zs := [.junk] } := by kernel_rfl
@[go_sem] theorem Ty_135 : Ty 135 = some { td := .other, sz := 1, by_ := 8, zs := [.junk] } := by kernel_rfl
@[go_sem] theorem Ty_136 : Ty 136 = some { td := .other, sz := 1, by_ := 8, zs := [.junk] } := by kernel_rfl
@[go_sem] theorem Ty_137 : Ty 137 = some { td := .other, sz := 1, by_ := 8, zs := [.junk] } := by kernel_rfl
@[go_sem] theorem Ty_138 : Ty 138 = some { td := .ptr 45, sz := 1, by_ := 8, zs := [.junk] } := by kernel_rfl
@[go_sem] theorem Ty_139 : Ty 139 = some { td := .other, sz := 1, by_ := 8, zs := [.junk] } := by kernel_rfl
@[go_sem] theorem Ty_140 : Ty 140 = some { td := .other, sz := 1, by_ := 8, zs := [.junk] } := by kernel_rfl
@[go_sem] theorem Ty_141 : Ty 141 = some { td := .slice 142, sz := 1, by_ := 24, zs := [.nils] } := by kernel_rfl
@[go_sem] theorem Ty_142 : Ty 142 = some { td := .slice 3, sz := 1, by_ := 24, zs := [.nils] } := by kernel_rfl
@[go_sem] theorem Ty_143 : Ty 143 = some { td := .other, sz := 1, by_ := 8, zs := [.junk] } := by kernel_rfl
@[go_sem] theorem Ty_144 : Ty 144 = some { td := .other, sz := 1, by_ := 8, zs := [.junk] } := by kernel_rfl
@[go_sem] theorem Ty_145 : Ty 145 = some { td := .other, sz := 1, by_ := 8, zs := [.junk] } := by kernel_rfl
@[go_sem] theorem Ty_146 : Ty 146 = some { td := .other, sz := 1, by_ := 8, zs := [.junk] } := by kernel_rfl
@[go_sem] theorem Ty_147 : Ty 147 = some { td := .other, sz := 1, by_ := 8, zs := [.junk] } := by kernel_rfl
@[go_sem] theorem Ty_148 : Ty 148 = some { td := .other, sz := 1, by_ := 8, zs := [.junk] } := by kernel_rfl
@[go_sem] theorem Ty_149 : Ty 149 = some { td := .other, sz := 1, by_ := 8, zs := [.junk] } := by kernel_rfl
@[go_sem] theorem Ty_150 : Ty 150 = some { td := .other, sz := 1, by_ := 8, zs := [.junk] } := by kernel_rfl
@[go_sem] theorem Ty_152 : Ty 152 = some { td := .other, sz := 1, by_ := 8, zs := [.junk] } := by kernel_rfl
@[go_sem] theorem Ty_153 : Ty 153 = some { td := .other, sz := 1, by_ := 8, zs := [.junk] } := by kernel_rfl
@[go_sem] theorem Ty_154 : Ty 154 = some { td := .other, sz := 1, by_ := 8, zs := [.junk] } := by kernel_rfl
@[go_sem] theorem Ty_155 : Ty 155 = some { td := .other, sz := 1, by_ := 8, zs := [.junk] } := by kernel_rfl
@[go_sem] theorem Ty_156 : Ty 156 = some { td := .other, sz := 1, by_ := 8, zs := [.junk] } := by kernel_rfl
@[go_sem] theorem Ty_157 : Ty 157 = some { td := .other, sz := 1, by_ := 8, zs := [.junk] } := by kernel_rfl
@[go_sem] theorem Ty_158 : Ty 158 = some { td := .other, sz := 1, by_ := 8, zs := [.junk] } := by kernel_rfl
@[go_sem] theorem Ty_159 : Ty 159 = some { td := .other, sz := 1, by_ := 8, zs := [.junk] } := by kernel_rfl
@[go_sem] theorem Ty_160 : Ty 160 = some { td := .other, sz := 1, by_ := 8, zs := [.junk] } := by kernel_rfl
@[go_sem] theorem Ty_161 : Ty 161 = some { td := .ptr 82, sz := 1, by_ := 8, zs := [.junk] } := by kernel_rfl
@[go_sem] theorem Ty_163 : Ty 163 = some { td := .other, sz := 1, by_ := 8, zs := [.junk] } := by kernel_rfl
@[go_sem] theorem Ty_164 : Ty 164 = some { td := .other, sz := 1, by_ := 8, zs := [.junk] } := by kernel_rfl
@[go_sem] theorem Ty_165 : Ty 165 = some { td := .other, sz := 1, by_ := 8, zs := [.junk] } := by kernel_rfl
@[go_sem] theorem Ty_166 : Ty 166 = some { td := .other, sz := 1, by_ := 8, zs := [.junk] } := by kernel_rfl
@[go_sem] theorem Ty_167 : Ty 167 = some { td := .other, sz := 1, by_ := 8, zs := [.junk] } := by kernel_rfl
@[go_sem] theorem Ty_168 : Ty 168 = some { td := .ptr 92, sz := 1, by_ := 8, zs := [.junk] } := by kernel_rfl
@[go_sem] theorem Ty_169 : Ty 169 = some { td := .other, sz := 1, by_ := 8, zs := [.junk] } := by kernel_rfl
@[go_sem] theorem Ty_170 : Ty 170 = some { td := .other, sz := 1, by_ := 8, zs := [.junk] } := by kernel_rfl
@[go_sem] theorem Ty_171 : Ty 171 = some { td := .other, sz := 1, by_ := 8, zs := [.junk] } := by kernel_rfl
@[go_sem] theorem Ty_172 : Ty 172 = some { td := .other, sz := 1, by_ := 8, zs := [.junk] } := by kernel_rfl
@[go_sem] theorem Ty_173 : Ty 173 = some { td := .other, sz := 1, by_ := 8, zs := [.junk] } := by kernel_rfl
@[go_sem] theorem Ty_174 : Ty 174 = some { td := .other, sz := 1, by_ := 8, zs := [.junk] } := by kernel_rfl
@[go_sem] theorem Ty_175 : Ty 175 = some { td := .slice 177, sz := 1, by_ := 24, zs := [.nils] } := by kernel_rfl
@[go_sem] theorem Ty_176 : Ty 176 = some { td := .struct [(0, 32), (1, 2)], sz := 2, by_ := 16, zs := [.flt .f32 (some 0), .int .i64 0] } := by kernel_rfl
@[go_sem] theorem Ty_177 : Ty 177 = some { td := .struct [(0, 32), (1, 2)], sz := 2, by_ := 16, zs := [.flt .f32 (some 0), .int .i64 0] } := by kernel_rfl
@[go_sem] theorem Ty_178 : Ty 178 = some { td := .other, sz := 1, by_ := 8, zs := [.junk] } := by kernel_rfl
@[go_sem] theorem Ty_179 : Ty 179 = some { td := .other, sz := 1, by_ := 8, zs := [.junk] } := by kernel_rfl
@[go_sem] theorem Ty_180 : Ty 180 = some { td := .other, sz := 1, by_ := 8, zs := [.junk] } := by kernel_rfl
@[go_sem] theorem Ty_181 : Ty 181 = some { td := .other, sz := 1, by_ := 8, zs := [.junk] } := by kernel_rfl
@[go_sem] theorem Ty_182 : Ty 182 = some { td := .other, sz := 1, by_ := 8, zs := [.junk] } := by kernel_rfl
@[go_sem] theorem Ty_183 : Ty 183 = some { td := .other, sz := 1, by_ := 8, zs := [.junk] } := by kernel_rfl
@[go_sem] theorem Ty_184 : Ty 184 = some { td := .other, sz := 1, by_ := 8, zs := [.junk] } := by kernel_rfl
@[go_sem] theorem Ty_185 : Ty 185 = some { td := .slice 24, sz := 1, by_ := 24, zs := [.nils] } := by kernel_rfl
@[go_sem] theorem Ty_186 : Ty 186 = some { td := .arr 3 2, sz := 3, by_ := 24, zs := [.int .i64 0, .int .i64 0, .int .i64 0] } := by kernel_rfl
@[go_sem] theorem Ty_188 : Ty 188 = some { td := .other, sz := 1, by_ := 8, zs := [.junk] } := by kernel_rfl
@[go_sem] theorem Ty_189 : Ty 189 = some { td := .other, sz := 1, by_ := 8, zs := [.junk] } := by kernel_rfl
@[go_sem] theorem Ty_190 : Ty 190 = some { td := .other, sz := 1, by_ := 8, zs := [.junk] } := by kernel_rfl
@[go_sem] theorem Ty_192 : Ty 192 = some { td := .other, sz := 1, by_ := 8, zs := [.junk] } := by kernel_rfl
@[go_sem] theorem Ty_194 : Ty 194 = some { td := .other, sz := 1, by_ := 8, zs := [.junk] } := by kernel_rfl
@[go_sem] theorem Ty_195 : Ty 195 = some { td := .int .u64, sz := 1, by_ := 8, zs := [.int .u64 0] } := by kernel_rfl
@[go_sem] theorem Ty_196 : Ty 196 = some { td := .struct [(0, 22), (1, 3), (2, 195)], sz := 3, by_ := 40, zs := [.nils, .int .i64 0, .int .u64 0] } := by kernel_rfl
@[go_sem] theorem Ty_197 : Ty 197 = some { td := .struct [(0, 22), (1, 3), (2, 195)], sz := 3, by_ := 40, zs := [.nils, .int .i64 0, .int .u64 0] } := by kernel_rfl
@[go_sem] theorem Ty_198 : Ty 198 = some { td := .other, sz := 1, by_ := 8, zs := [.junk] } := by kernel_rfl
@[go_sem] theorem Ty_199 : Ty 199 = some { td := .int .u64, sz := 1, by_ := 8, zs := [.int .u64 0] } := by kernel_rfl
@[go_sem] theorem Ty_200 : Ty 200 = some { td := .other, sz := 1, by_ := 8, zs := [.junk] } := by kernel_rfl
@[go_sem] theorem Ty_201 : Ty 201 = some { td := .int .u32, sz := 1, by_ := 4, zs := [.int .u32 0] } := by kernel_rfl
@[go_sem] theorem Ty_202 : Ty 202 = some { td := .other, sz := 1, by_ := 8, zs := [.junk] } := by kernel_rfl
@[go_sem] theorem Ty_203 : Ty 203 = some { td := .other, sz := 1, by_ := 8, zs := [.junk] } := by kernel_rfl
@[go_sem] theorem Ty_204 : Ty 204 = some { td := .other, sz := 1, by_ := 8, zs := [.junk] } := by kernel_rfl
@[go_sem] theorem Ty_205 : Ty 205 = some { td := .other, sz := 1, by_ := 8, zs := [.junk] } := by kernel_rfl
@[go_sem] theorem Ty_206 : Ty 206 = some { td := .other, sz := 1, by_ := 8, zs := [.junk] } := by kernel_rfl
@[go_sem] theorem Ty_207 : Ty 207 = some { td := .other, sz := 1, by_ := 8, zs := [.junk] } := by kernel_rfl
@[go_sem] theorem Ty_208 : Ty 208 = some { td := .other, sz := 1, by_ := 8, zs := [.junk] } := by kernel_rfl
@[go_sem] theorem Ty_209 : Ty 209 = some { td := .other, sz := 1, by_ := 8, zs := [.junk] } := by kernel_rfl
@[go_sem] theorem Ty_210 : Ty 210 = some { td := .other, sz := 1, by_ := 8, zs := [.junk] } := by kernel_rfl
@[go_sem] theorem Ty_211 : Ty 211 = some { td := .other, sz := 1, by_ := 8, zs := [.junk] } := by kernel_rfl
@[go_sem] theorem Ty_212 : Ty 212 = some { td := .other, sz := 1, by_ := 8, zs := [.junk] } := by kernel_rfl
@[go_sem] theorem Ty_213 : Ty 213 = some { td := .other, sz := 1, by_ := 8, zs := [.junk] } := by kernel_rfl
@[go_sem] theorem Ty_214 : Ty 214 = some { td := .other, sz := 1, by_ := 8, zs := [.junk] } := by kernel_rfl
@[go_sem] theorem Ty_215 : Ty 215 = some { td := .other, sz := 1, by_ := 8, zs := [.junk] } := by kernel_rfl
@[go_sem] theorem Ty_216 : Ty 216 = some { td := .other, sz := 1, by_ := 8, zs := [.junk] } := by kernel_rfl
@[go_sem] theorem Ty_217 : Ty 217 = some { td := .other, sz := 1, by_ := 8, zs := [.junk] } := by kernel_rfl
@[go_sem] theorem Ty_218 : Ty 218 = some { td := .other, sz := 1, by_ := 8, zs := [.junk] } := by kernel_rfl
@[go_sem] theorem Ty_219 : Ty 219 = some { td := .other, sz := 1, by_ := 8, zs := [.junk] } := by kernel_rfl
@[go_sem] theorem Ty_220 : Ty 220 = some { td := .other, sz := 1, by_ := 8, zs := [.junk] } := by kernel_rfl
@[go_sem] theorem Ty_221 : Ty 221 = some { td := .other, sz := 1, by_ := 8, zs := [.junk] } := by kernel_rfl
@[go_sem] theorem Ty_222 : Ty 222 = some { td := .other, sz := 1, by_ := 8, zs := [.junk] } := by kernel_rfl
@[go_sem] theorem Ty_223 : Ty 223 = some { td := .other, sz := 1, by_ := 8, zs := [.junk] } := by kernel_rfl
@[go_sem] theorem Ty_224 : Ty 224 = some { td := .other, sz := 1, by_ := 8, zs := [.junk] } := by kernel_rfl
@[go_sem] theorem Ty_225 : Ty 225 = some { td := .other, sz := 1, by_ := 8, zs := [.junk] } := by kernel_rfl
@[go_sem] theorem Ty_226 : Ty 226 = some { td := .int .i64, sz := 1, by_ := 8, zs := [.int .i64 0] } := by kernel_rfl
@[go_sem] theorem Ty_228 : Ty 228 = some { td := .other, sz := 1, by_ := 8, zs := [.junk] } := by kernel_rfl
@[go_sem] theorem Ty_229 : Ty 229 = some { td := .other, sz := 1, by_ := 8, zs := [.junk] } := by kernel_rfl
@[go_sem] theorem Ty_230 : Ty 230 = some { td := .other, sz := 1, by_ := 8, zs := [.junk] } := by kernel_rfl
@[go_sem] theorem Ty_231 : Ty 231 = some { td := .other, sz := 1, by_ := 8, zs := [.junk] } := by kernel_rfl
@[go_sem] theorem Ty_233 : Ty 233 = some { td := .other, sz := 1, by_ := 8, zs := [.junk] } := by kernel_rfl
@[go_sem] theorem Ty_234 : Ty 234 = some { td := .other, sz := 1, by_ := 8, zs := [.junk] } := by kernel_rfl
@[go_sem] theorem Ty_235 : Ty 235 = some { td := .other, sz := 1, by_ := 8, zs := [.junk] } := by kernel_rfl
@[go_sem] theorem Ty_236 : Ty 236 = some { td := .other, sz := 1, by_ := 8, zs := [.junk] } := by kernel_rfl
@[go_sem] theorem Ty_237 : Ty 237 = some { td := .other, sz := 1, by_ := 8, zs := [.junk] } := by kernel_rfl
@[go_sem] theorem Ty_238 : Ty 238 = some { td := .other, sz := 1, by_ := 8, zs := [.junk] } := by kernel_rfl
@[go_sem] theorem Ty_239 : Ty 239 = some { td := .int .u64, sz := 1, by_ := 8, zs := [.int .u64 0] } := by kernel_rfl
@[go_sem] theorem Ty_240 : Ty 240 = some { td := .other, sz := 1, by_ := 8, zs := [.junk] } := by kernel_rfl
@[go_sem] theorem Ty_241 : Ty 241 = some { td := .other, sz := 1, by_ := 8, zs := [.junk] } := by kernel_rfl
@[go_sem] theorem Ty_242 : Ty 242 = some { td := .other, sz := 1, by_ := 8, zs := [.junk] } := by kernel_rfl
@[go_sem] theorem Ty_243 : Ty 243 = some { td := .ptr 3, sz := 1, by_ := 8, zs := [.junk] } := by kernel_rfl
@[go_sem] theorem Ty_244 : Ty 244 = some { td := .other, sz := 1, by_ := 8, zs := [.junk] } := by kernel_rfl
@[go_sem] theorem Ty_245 : Ty 245 = some { td := .other, sz := 1, by_ := 8, zs := [.junk] } := by kernel_rfl
@[go_sem] theorem Ty_246 : Ty 246 = some { td := .other, sz := 1, by_ := 8, zs := [.junk] } := by kernel_rfl
@[go_sem] theorem Ty_247 : Ty 247 = some { td := .ptr 239, sz := 1, by_ := 8, zs := [.junk] } := by kernel_rfl
@[go_sem] theorem Ty_249 : Ty 249 = some { td := .other, sz := 1, by_ := 8, zs := [.junk] } := by kernel_rfl
@[go_sem] theorem Ty_250 : Ty 250 = some { td := .other, sz := 1, by_ := 8, zs := [.junk] } := by kernel_rfl
@[go_sem] theorem Ty_251 : Ty 251 = some { td := .other, sz := 1, by_ := 8, zs := [.junk] } := by kernel_rfl
@[go_sem] theorem Ty_252 : Ty 252 = some { td := .other, sz := 1, by_ := 8, zs := [.junk] } := by kernel_rfl
@[go_sem] theorem Ty_253 : Ty 253 = some { td := .other, sz := 1, by_ := 8, zs := [.junk] } := by kernel_rfl
@[go_sem] theorem Ty_255 : Ty 255 = some { td := .other, sz := 1, by_ := 8, zs := [.junk] } := by kernel_rfl
@[go_sem] theorem Ty_256 : Ty 256 = some { td := .other, sz := 1, by_ := 8, zs := [.junk] } := by kernel_rfl
@[go_sem] theorem Ty_257 : Ty 257 = some { td := .other, sz := 1, by_ := 8, zs := [.junk] } := by kernel_rfl
@[go_sem] theorem Ty_258 : Ty 258 = some { td := .other, sz := 1, by_ := 8, zs := [.junk] } := by kernel_rfl
@[go_sem] theorem Ty_264 : Ty 264 = some { td := .other, sz := 1, by_ := 8, zs := [.junk] } := by kernel_rfl
@[go_sem] theorem Ty_268 : Ty 268 = some { td := .ptr 5, sz := 1, by_ := 8, zs := [.junk] } := by kernel_rfl
end Go.Proofs.Ytcjpfifajbjalaa
