/- The types of the program, as the abstract machine asks for them. -/
import Derived.Test.YtpbafacehmjdmaaZm
namespace Go.Proofs.Ytpbafacehmjdmaa
open Go.RowKit
set_option linter.unusedSimpArgs false
set_option linter.unusedVariables false

theorem can_f32_0 : can .f32 0 = some 0 := can_num (by rw [isNum_iff]; decide)
theorem can_f64_0 : can .f64 0 = some 0 := can_num (by rw [isNum_iff]; decide)
def OkT (t : TypeId) (e : TE) : Prop := ∃ d i z, Try.prog.underlying t = some d ∧ e.td.Ok d ∧ Try.prog.info? t = some i ∧ i.size = e.sz ∧ i.bytes = e.by_ ∧
  i.zero = some z ∧ e.zs.length = e.sz ∧ (∀ μ H, All2 (BR μ H) e.zs z.cells.toList) ∧ ∀ v ∈ z.cells.toList, v.oneCell' = true
def AllT : List (TypeId × TE) → Prop
  | [] => True
  | p :: l => OkT p.1 p.2 ∧ AllT l
theorem allT_mem : ∀ {l : List (TypeId × TE)}, AllT l → ∀ p ∈ l, OkT p.1 p.2
  | [], _, p, hp => by cases hp
  | q :: l, h, p, hp => by
    rcases List.mem_cons.1 hp with rfl | hp
    · exact h.1
    · exact allT_mem h.2 p hp

def te1 : TE := { td := .other, sz := 1, by_ := 8, zs := [.junk] }
theorem ok1 : OkT 1 te1 := by
  refine ⟨_, Try.t1, _, Try.underlying1, ⟨(fun _ h => by cases h), (fun _ _ h => by cases h)⟩, by kernel_rfl, rfl, rfl, rfl, rfl, fun μ H => ⟨trivial, trivial⟩, ?_⟩
  intro v hv
  simp only [Value.cells, List.mem_cons, List.not_mem_nil, or_false] at hv
  rcases hv with rfl <;> rfl
def te2 : TE := { td := .int .i64, sz := 1, by_ := 8, zs := [.int .i64 0] }
theorem ok2 : OkT 2 te2 := by
  refine ⟨_, Try.t2, _, Try.underlying2, rfl, by kernel_rfl, rfl, rfl, rfl, rfl, fun μ H => ⟨rfl, trivial⟩, ?_⟩
  intro v hv
  simp only [Value.cells, List.mem_cons, List.not_mem_nil, or_false] at hv
  rcases hv with rfl <;> rfl
def te3 : TE := { td := .int .i64, sz := 1, by_ := 8, zs := [.int .i64 0] }
theorem ok3 : OkT 3 te3 := by
  refine ⟨_, Try.t3, _, Try.underlying3, rfl, by kernel_rfl, rfl, rfl, rfl, rfl, fun μ H => ⟨rfl, trivial⟩, ?_⟩
  intro v hv
  simp only [Value.cells, List.mem_cons, List.not_mem_nil, or_false] at hv
  rcases hv with rfl <;> rfl
def te4 : TE := { td := .bool, sz := 1, by_ := 1, zs := [.bool false] }
theorem ok4 : OkT 4 te4 := by
  refine ⟨_, Try.t4, _, Try.underlying4, rfl, by kernel_rfl, rfl, rfl, rfl, rfl, fun μ H => ⟨rfl, trivial⟩, ?_⟩
  intro v hv
  simp only [Value.cells, List.mem_cons, List.not_mem_nil, or_false] at hv
  rcases hv with rfl <;> rfl
def te5 : TE := { td := .int .u8, sz := 1, by_ := 1, zs := [.int .u8 0] }
theorem ok5 : OkT 5 te5 := by
  refine ⟨_, Try.t5, _, Try.underlying5, rfl, by kernel_rfl, rfl, rfl, rfl, rfl, fun μ H => ⟨rfl, trivial⟩, ?_⟩
  intro v hv
  simp only [Value.cells, List.mem_cons, List.not_mem_nil, or_false] at hv
  rcases hv with rfl <;> rfl
def te21 : TE := { td := .int .i32, sz := 1, by_ := 4, zs := [.int .i32 0] }
theorem ok21 : OkT 21 te21 := by
  refine ⟨_, Try.t21, _, Try.underlying21, rfl, by kernel_rfl, rfl, rfl, rfl, rfl, fun μ H => ⟨rfl, trivial⟩, ?_⟩
  intro v hv
  simp only [Value.cells, List.mem_cons, List.not_mem_nil, or_false] at hv
  rcases hv with rfl <;> rfl
def te22 : TE := { td := .slice 5, sz := 1, by_ := 24, zs := [.nils] }
theorem ok22 : OkT 22 te22 := by
  refine ⟨_, Try.t22, _, Try.underlying22, rfl, by kernel_rfl, rfl, rfl, rfl, rfl, fun μ H => ⟨⟨none, rfl⟩, trivial⟩, ?_⟩
  intro v hv
  simp only [Value.cells, List.mem_cons, List.not_mem_nil, or_false] at hv
  rcases hv with rfl <;> rfl
def te23 : TE := { td := .other, sz := 1, by_ := 8, zs := [.junk] }
theorem ok23 : OkT 23 te23 := by
  refine ⟨_, Try.t23, _, Try.underlying23, ⟨(fun _ h => by cases h), (fun _ _ h => by cases h)⟩, by kernel_rfl, rfl, rfl, rfl, rfl, fun μ H => ⟨trivial, trivial⟩, ?_⟩
  intro v hv
  simp only [Value.cells, List.mem_cons, List.not_mem_nil, or_false] at hv
  rcases hv with rfl <;> rfl
def te24 : TE := { td := .slice 2, sz := 1, by_ := 24, zs := [.nils] }
theorem ok24 : OkT 24 te24 := by
  refine ⟨_, Try.t24, _, Try.underlying24, rfl, by kernel_rfl, rfl, rfl, rfl, rfl, fun μ H => ⟨⟨none, rfl⟩, trivial⟩, ?_⟩
  intro v hv
  simp only [Value.cells, List.mem_cons, List.not_mem_nil, or_false] at hv
  rcases hv with rfl <;> rfl
def te25 : TE := { td := .other, sz := 1, by_ := 8, zs := [.junk] }
theorem ok25 : OkT 25 te25 := by
  refine ⟨_, Try.t25, _, Try.underlying25, ⟨(fun _ h => by cases h), (fun _ _ h => by cases h)⟩, by kernel_rfl, rfl, rfl, rfl, rfl, fun μ H => ⟨trivial, trivial⟩, ?_⟩
  intro v hv
  simp only [Value.cells, List.mem_cons, List.not_mem_nil, or_false] at hv
  rcases hv with rfl <;> rfl
def te26 : TE := { td := .other, sz := 1, by_ := 8, zs := [.junk] }
theorem ok26 : OkT 26 te26 := by
  refine ⟨_, Try.t26, _, Try.underlying26, ⟨(fun _ h => by cases h), (fun _ _ h => by cases h)⟩, by kernel_rfl, rfl, rfl, rfl, rfl, fun μ H => ⟨trivial, trivial⟩, ?_⟩
  intro v hv
  simp only [Value.cells, List.mem_cons, List.not_mem_nil, or_false] at hv
  rcases hv with rfl <;> rfl
def te27 : TE := { td := .struct [(0, 2), (1, 24)], sz := 2, by_ := 32, zs := [.int .i64 0, .nils] }
theorem ok27 : OkT 27 te27 := by
  refine ⟨_, Try.t27, _, Try.underlying27, ⟨_, rfl, rfl⟩, by kernel_rfl, rfl, rfl, rfl, rfl, fun μ H => ⟨rfl, ⟨⟨none, rfl⟩, trivial⟩⟩, ?_⟩
  intro v hv
  simp only [Value.cells, List.mem_cons, List.not_mem_nil, or_false] at hv
  rcases hv with rfl | rfl <;> rfl
def te28 : TE := { td := .struct [(0, 2), (1, 24)], sz := 2, by_ := 32, zs := [.int .i64 0, .nils] }
theorem ok28 : OkT 28 te28 := by
  refine ⟨_, Try.t28, _, Try.underlying28, ⟨_, rfl, rfl⟩, by kernel_rfl, rfl, rfl, rfl, rfl, fun μ H => ⟨rfl, ⟨⟨none, rfl⟩, trivial⟩⟩, ?_⟩
  intro v hv
  simp only [Value.cells, List.mem_cons, List.not_mem_nil, or_false] at hv
  rcases hv with rfl | rfl <;> rfl
def te30 : TE := { td := .other, sz := 1, by_ := 8, zs := [.junk] }
theorem ok30 : OkT 30 te30 := by
  refine ⟨_, Try.t30, _, Try.underlying30, ⟨(fun _ h => by cases h), (fun _ _ h => by cases h)⟩, by kernel_rfl, rfl, rfl, rfl, rfl, fun μ H => ⟨trivial, trivial⟩, ?_⟩
  intro v hv
  simp only [Value.cells, List.mem_cons, List.not_mem_nil, or_false] at hv
  rcases hv with rfl <;> rfl
def te31 : TE := { td := .other, sz := 1, by_ := 8, zs := [.junk] }
theorem ok31 : OkT 31 te31 := by
  refine ⟨_, Try.t31, _, Try.underlying31, ⟨(fun _ h => by cases h), (fun _ _ h => by cases h)⟩, by kernel_rfl, rfl, rfl, rfl, rfl, fun μ H => ⟨trivial, trivial⟩, ?_⟩
  intro v hv
  simp only [Value.cells, List.mem_cons, List.not_mem_nil, or_false] at hv
  rcases hv with rfl <;> rfl
def te32 : TE := { td := .flt .f32, sz := 1, by_ := 4, zs := [.flt .f32 (some 0)] }
theorem ok32 : OkT 32 te32 := by
  refine ⟨_, Try.t32, _, Try.underlying32, rfl, by kernel_rfl, rfl, rfl, rfl, rfl, fun μ H => ⟨⟨0, rfl, can_f32_0⟩, trivial⟩, ?_⟩
  intro v hv
  simp only [Value.cells, List.mem_cons, List.not_mem_nil, or_false] at hv
  rcases hv with rfl <;> rfl
def te34 : TE := { td := .other, sz := 1, by_ := 8, zs := [.junk] }
theorem ok34 : OkT 34 te34 := by
  refine ⟨_, Try.t34, _, Try.underlying34, ⟨(fun _ h => by cases h), (fun _ _ h => by cases h)⟩, by kernel_rfl, rfl, rfl, rfl, rfl, fun μ H => ⟨trivial, trivial⟩, ?_⟩
  intro v hv
  simp only [Value.cells, List.mem_cons, List.not_mem_nil, or_false] at hv
  rcases hv with rfl <;> rfl
def te35 : TE := { td := .other, sz := 1, by_ := 8, zs := [.junk] }
theorem ok35 : OkT 35 te35 := by
  refine ⟨_, Try.t35, _, Try.underlying35, ⟨(fun _ h => by cases h), (fun _ _ h => by cases h)⟩, by kernel_rfl, rfl, rfl, rfl, rfl, fun μ H => ⟨trivial, trivial⟩, ?_⟩
  intro v hv
  simp only [Value.cells, List.mem_cons, List.not_mem_nil, or_false] at hv
  rcases hv with rfl <;> rfl
def te36 : TE := { td := .other, sz := 1, by_ := 8, zs := [.junk] }
theorem ok36 : OkT 36 te36 := by
  refine ⟨_, Try.t36, _, Try.underlying36, ⟨(fun _ h => by cases h), (fun _ _ h => by cases h)⟩, by kernel_rfl, rfl, rfl, rfl, rfl, fun μ H => ⟨trivial, trivial⟩, ?_⟩
  intro v hv
  simp only [Value.cells, List.mem_cons, List.not_mem_nil, or_false] at hv
  rcases hv with rfl <;> rfl
def te37 : TE := { td := .flt .f64, sz := 1, by_ := 8, zs := [.flt .f64 (some 0)] }
theorem ok37 : OkT 37 te37 := by
  refine ⟨_, Try.t37, _, Try.underlying37, rfl, by kernel_rfl, rfl, rfl, rfl, rfl, fun μ H => ⟨⟨0, rfl, can_f64_0⟩, trivial⟩, ?_⟩
  intro v hv
  simp only [Value.cells, List.mem_cons, List.not_mem_nil, or_false] at hv
  rcases hv with rfl <;> rfl
def te39 : TE := { td := .other, sz := 1, by_ := 8, zs := [.junk] }
theorem ok39 : OkT 39 te39 := by
  refine ⟨_, Try.t39, _, Try.underlying39, ⟨(fun _ h => by cases h), (fun _ _ h => by cases h)⟩, by kernel_rfl, rfl, rfl, rfl, rfl, fun μ H => ⟨trivial, trivial⟩, ?_⟩
  intro v hv
  simp only [Value.cells, List.mem_cons, List.not_mem_nil, or_false] at hv
  rcases hv with rfl <;> rfl
def te40 : TE := { td := .other, sz := 1, by_ := 8, zs := [.junk] }
theorem ok40 : OkT 40 te40 := by
  refine ⟨_, Try.t40, _, Try.underlying40, ⟨(fun _ h => by cases h), (fun _ _ h => by cases h)⟩, by kernel_rfl, rfl, rfl, rfl, rfl, fun μ H => ⟨trivial, trivial⟩, ?_⟩
  intro v hv
  simp only [Value.cells, List.mem_cons, List.not_mem_nil, or_false] at hv
  rcases hv with rfl <;> rfl
def te41 : TE := { td := .other, sz := 1, by_ := 8, zs := [.junk] }
theorem ok41 : OkT 41 te41 := by
  refine ⟨_, Try.t41, _, Try.underlying41, ⟨(fun _ h => by cases h), (fun _ _ h => by cases h)⟩, by kernel_rfl, rfl, rfl, rfl, rfl, fun μ H => ⟨trivial, trivial⟩, ?_⟩
  intro v hv
  simp only [Value.cells, List.mem_cons, List.not_mem_nil, or_false] at hv
  rcases hv with rfl <;> rfl
def te42 : TE := { td := .other, sz := 1, by_ := 8, zs := [.junk] }
theorem ok42 : OkT 42 te42 := by
  refine ⟨_, Try.t42, _, Try.underlying42, ⟨(fun _ h => by cases h), (fun _ _ h => by cases h)⟩, by kernel_rfl, rfl, rfl, rfl, rfl, fun μ H => ⟨trivial, trivial⟩, ?_⟩
  intro v hv
  simp only [Value.cells, List.mem_cons, List.not_mem_nil, or_false] at hv
  rcases hv with rfl <;> rfl
def te43 : TE := { td := .other, sz := 1, by_ := 8, zs := [.junk] }
theorem ok43 : OkT 43 te43 := by
  refine ⟨_, Try.t43, _, Try.underlying43, ⟨(fun _ h => by cases h), (fun _ _ h => by cases h)⟩, by kernel_rfl, rfl, rfl, rfl, rfl, fun μ H => ⟨trivial, trivial⟩, ?_⟩
  intro v hv
  simp only [Value.cells, List.mem_cons, List.not_mem_nil, or_false] at hv
  rcases hv with rfl <;> rfl
def te44 : TE := { td := .ptr 62, sz := 1, by_ := 8, zs := [.junk] }
theorem ok44 : OkT 44 te44 := by
  refine ⟨_, Try.t44, _, Try.underlying44, rfl, by kernel_rfl, rfl, rfl, rfl, rfl, fun μ H => ⟨trivial, trivial⟩, ?_⟩
  intro v hv
  simp only [Value.cells, List.mem_cons, List.not_mem_nil, or_false] at hv
  rcases hv with rfl <;> rfl
def te45 : TE := { td := .other, sz := 1, by_ := 8, zs := [.junk] }
theorem ok45 : OkT 45 te45 := by
  refine ⟨_, Try.t45, _, Try.underlying45, ⟨(fun _ h => by cases h), (fun _ _ h => by cases h)⟩, by kernel_rfl, rfl, rfl, rfl, rfl, fun μ H => ⟨trivial, trivial⟩, ?_⟩
  intro v hv
  simp only [Value.cells, List.mem_cons, List.not_mem_nil, or_false] at hv
  rcases hv with rfl <;> rfl
def te46 : TE := { td := .other, sz := 1, by_ := 8, zs := [.junk] }
theorem ok46 : OkT 46 te46 := by
  refine ⟨_, Try.t46, _, Try.underlying46, ⟨(fun _ h => by cases h), (fun _ _ h => by cases h)⟩, by kernel_rfl, rfl, rfl, rfl, rfl, fun μ H => ⟨trivial, trivial⟩, ?_⟩
  intro v hv
  simp only [Value.cells, List.mem_cons, List.not_mem_nil, or_false] at hv
  rcases hv with rfl <;> rfl
def te47 : TE := { td := .other, sz := 1, by_ := 8, zs := [.junk] }
theorem ok47 : OkT 47 te47 := by
  refine ⟨_, Try.t47, _, Try.underlying47, ⟨(fun _ h => by cases h), (fun _ _ h => by cases h)⟩, by kernel_rfl, rfl, rfl, rfl, rfl, fun μ H => ⟨trivial, trivial⟩, ?_⟩
  intro v hv
  simp only [Value.cells, List.mem_cons, List.not_mem_nil, or_false] at hv
  rcases hv with rfl <;> rfl
def te48 : TE := { td := .other, sz := 1, by_ := 8, zs := [.junk] }
theorem ok48 : OkT 48 te48 := by
  refine ⟨_, Try.t48, _, Try.underlying48, ⟨(fun _ h => by cases h), (fun _ _ h => by cases h)⟩, by kernel_rfl, rfl, rfl, rfl, rfl, fun μ H => ⟨trivial, trivial⟩, ?_⟩
  intro v hv
  simp only [Value.cells, List.mem_cons, List.not_mem_nil, or_false] at hv
  rcases hv with rfl <;> rfl
def te49 : TE := { td := .other, sz := 1, by_ := 8, zs := [.junk] }
theorem ok49 : OkT 49 te49 := by
  refine ⟨_, Try.t49, _, Try.underlying49, ⟨(fun _ h => by cases h), (fun _ _ h => by cases h)⟩, by kernel_rfl, rfl, rfl, rfl, rfl, fun μ H => ⟨trivial, trivial⟩, ?_⟩
  intro v hv
  simp only [Value.cells, List.mem_cons, List.not_mem_nil, or_false] at hv
  rcases hv with rfl <;> rfl
def te51 : TE := { td := .other, sz := 1, by_ := 8, zs := [.junk] }
theorem ok51 : OkT 51 te51 := by
  refine ⟨_, Try.t51, _, Try.underlying51, ⟨(fun _ h => by cases h), (fun _ _ h => by cases h)⟩, by kernel_rfl, rfl, rfl, rfl, rfl, fun μ H => ⟨trivial, trivial⟩, ?_⟩
  intro v hv
  simp only [Value.cells, List.mem_cons, List.not_mem_nil, or_false] at hv
  rcases hv with rfl <;> rfl
def te52 : TE := { td := .other, sz := 1, by_ := 8, zs := [.junk] }
theorem ok52 : OkT 52 te52 := by
  refine ⟨_, Try.t52, _, Try.underlying52, ⟨(fun _ h => by cases h), (fun _ _ h => by cases h)⟩, by kernel_rfl, rfl, rfl, rfl, rfl, fun μ H => ⟨trivial, trivial⟩, ?_⟩
  intro v hv
  simp only [Value.cells, List.mem_cons, List.not_mem_nil, or_false] at hv
  rcases hv with rfl <;> rfl
def te53 : TE := { td := .other, sz := 1, by_ := 8, zs := [.junk] }
theorem ok53 : OkT 53 te53 := by
  refine ⟨_, Try.t53, _, Try.underlying53, ⟨(fun _ h => by cases h), (fun _ _ h => by cases h)⟩, by kernel_rfl, rfl, rfl, rfl, rfl, fun μ H => ⟨trivial, trivial⟩, ?_⟩
  intro v hv
  simp only [Value.cells, List.mem_cons, List.not_mem_nil, or_false] at hv
  rcases hv with rfl <;> rfl
def te54 : TE := { td := .other, sz := 1, by_ := 8, zs := [.junk] }
theorem ok54 : OkT 54 te54 := by
  refine ⟨_, Try.t54, _, Try.underlying54, ⟨(fun _ h => by cases h), (fun _ _ h => by cases h)⟩, by kernel_rfl, rfl, rfl, rfl, rfl, fun μ H => ⟨trivial, trivial⟩, ?_⟩
  intro v hv
  simp only [Value.cells, List.mem_cons, List.not_mem_nil, or_false] at hv
  rcases hv with rfl <;> rfl
def te55 : TE := { td := .other, sz := 1, by_ := 8, zs := [.junk] }
theorem ok55 : OkT 55 te55 := by
  refine ⟨_, Try.t55, _, Try.underlying55, ⟨(fun _ h => by cases h), (fun _ _ h => by cases h)⟩, by kernel_rfl, rfl, rfl, rfl, rfl, fun μ H => ⟨trivial, trivial⟩, ?_⟩
  intro v hv
  simp only [Value.cells, List.mem_cons, List.not_mem_nil, or_false] at hv
  rcases hv with rfl <;> rfl
def te56 : TE := { td := .other, sz := 1, by_ := 8, zs := [.junk] }
theorem ok56 : OkT 56 te56 := by
  refine ⟨_, Try.t56, _, Try.underlying56, ⟨(fun _ h => by cases h), (fun _ _ h => by cases h)⟩, by kernel_rfl, rfl, rfl, rfl, rfl, fun μ H => ⟨trivial, trivial⟩, ?_⟩
  intro v hv
  simp only [Value.cells, List.mem_cons, List.not_mem_nil, or_false] at hv
  rcases hv with rfl <;> rfl
def te57 : TE := { td := .other, sz := 1, by_ := 8, zs := [.junk] }
theorem ok57 : OkT 57 te57 := by
  refine ⟨_, Try.t57, _, Try.underlying57, ⟨(fun _ h => by cases h), (fun _ _ h => by cases h)⟩, by kernel_rfl, rfl, rfl, rfl, rfl, fun μ H => ⟨trivial, trivial⟩, ?_⟩
  intro v hv
  simp only [Value.cells, List.mem_cons, List.not_mem_nil, or_false] at hv
  rcases hv with rfl <;> rfl
def te58 : TE := { td := .other, sz := 1, by_ := 8, zs := [.junk] }
theorem ok58 : OkT 58 te58 := by
  refine ⟨_, Try.t58, _, Try.underlying58, ⟨(fun _ h => by cases h), (fun _ _ h => by cases h)⟩, by kernel_rfl, rfl, rfl, rfl, rfl, fun μ H => ⟨trivial, trivial⟩, ?_⟩
  intro v hv
  simp only [Value.cells, List.mem_cons, List.not_mem_nil, or_false] at hv
  rcases hv with rfl <;> rfl
def te59 : TE := { td := .other, sz := 1, by_ := 8, zs := [.junk] }
theorem ok59 : OkT 59 te59 := by
  refine ⟨_, Try.t59, _, Try.underlying59, ⟨(fun _ h => by cases h), (fun _ _ h => by cases h)⟩, by kernel_rfl, rfl, rfl, rfl, rfl, fun μ H => ⟨trivial, trivial⟩, ?_⟩
  intro v hv
  simp only [Value.cells, List.mem_cons, List.not_mem_nil, or_false] at hv
  rcases hv with rfl <;> rfl
def te60 : TE := { td := .int .u64, sz := 1, by_ := 8, zs := [.int .u64 0] }
theorem ok60 : OkT 60 te60 := by
  refine ⟨_, Try.t60, _, Try.underlying60, rfl, by kernel_rfl, rfl, rfl, rfl, rfl, fun μ H => ⟨rfl, trivial⟩, ?_⟩
  intro v hv
  simp only [Value.cells, List.mem_cons, List.not_mem_nil, or_false] at hv
  rcases hv with rfl <;> rfl
def te61 : TE := { td := .struct [(0, 22), (1, 3), (2, 60)], sz := 3, by_ := 40, zs := [.nils, .int .i64 0, .int .u64 0] }
theorem ok61 : OkT 61 te61 := by
  refine ⟨_, Try.t61, _, Try.underlying61, ⟨_, rfl, rfl⟩, by kernel_rfl, rfl, rfl, rfl, rfl, fun μ H => ⟨⟨none, rfl⟩, ⟨rfl, ⟨rfl, trivial⟩⟩⟩, ?_⟩
  intro v hv
  simp only [Value.cells, List.mem_cons, List.not_mem_nil, or_false] at hv
  rcases hv with rfl | rfl | rfl <;> rfl
def te62 : TE := { td := .struct [(0, 22), (1, 3), (2, 60)], sz := 3, by_ := 40, zs := [.nils, .int .i64 0, .int .u64 0] }
theorem ok62 : OkT 62 te62 := by
  refine ⟨_, Try.t62, _, Try.underlying62, ⟨_, rfl, rfl⟩, by kernel_rfl, rfl, rfl, rfl, rfl, fun μ H => ⟨⟨none, rfl⟩, ⟨rfl, ⟨rfl, trivial⟩⟩⟩, ?_⟩
  intro v hv
  simp only [Value.cells, List.mem_cons, List.not_mem_nil, or_false] at hv
  rcases hv with rfl | rfl | rfl <;> rfl
def te63 : TE := { td := .other, sz := 1, by_ := 8, zs := [.junk] }
theorem ok63 : OkT 63 te63 := by
  refine ⟨_, Try.t63, _, Try.underlying63, ⟨(fun _ h => by cases h), (fun _ _ h => by cases h)⟩, by kernel_rfl, rfl, rfl, rfl, rfl, fun μ H => ⟨trivial, trivial⟩, ?_⟩
  intro v hv
  simp only [Value.cells, List.mem_cons, List.not_mem_nil, or_false] at hv
  rcases hv with rfl <;> rfl
def te64 : TE := { td := .other, sz := 1, by_ := 8, zs := [.junk] }
theorem ok64 : OkT 64 te64 := by
  refine ⟨_, Try.t64, _, Try.underlying64, ⟨(fun _ h => by cases h), (fun _ _ h => by cases h)⟩, by kernel_rfl, rfl, rfl, rfl, rfl, fun μ H => ⟨trivial, trivial⟩, ?_⟩
  intro v hv
  simp only [Value.cells, List.mem_cons, List.not_mem_nil, or_false] at hv
  rcases hv with rfl <;> rfl
def te65 : TE := { td := .int .u64, sz := 1, by_ := 8, zs := [.int .u64 0] }
theorem ok65 : OkT 65 te65 := by
  refine ⟨_, Try.t65, _, Try.underlying65, rfl, by kernel_rfl, rfl, rfl, rfl, rfl, fun μ H => ⟨rfl, trivial⟩, ?_⟩
  intro v hv
  simp only [Value.cells, List.mem_cons, List.not_mem_nil, or_false] at hv
  rcases hv with rfl <;> rfl
def te66 : TE := { td := .other, sz := 1, by_ := 8, zs := [.junk] }
theorem ok66 : OkT 66 te66 := by
  refine ⟨_, Try.t66, _, Try.underlying66, ⟨(fun _ h => by cases h), (fun _ _ h => by cases h)⟩, by kernel_rfl, rfl, rfl, rfl, rfl, fun μ H => ⟨trivial, trivial⟩, ?_⟩
  intro v hv
  simp only [Value.cells, List.mem_cons, List.not_mem_nil, or_false] at hv
  rcases hv with rfl <;> rfl
def te67 : TE := { td := .int .u32, sz := 1, by_ := 4, zs := [.int .u32 0] }
theorem ok67 : OkT 67 te67 := by
  refine ⟨_, Try.t67, _, Try.underlying67, rfl, by kernel_rfl, rfl, rfl, rfl, rfl, fun μ H => ⟨rfl, trivial⟩, ?_⟩
  intro v hv
  simp only [Value.cells, List.mem_cons, List.not_mem_nil, or_false] at hv
  rcases hv with rfl <;> rfl
def te68 : TE := { td := .other, sz := 1, by_ := 8, zs := [.junk] }
theorem ok68 : OkT 68 te68 := by
  refine ⟨_, Try.t68, _, Try.underlying68, ⟨(fun _ h => by cases h), (fun _ _ h => by cases h)⟩, by kernel_rfl, rfl, rfl, rfl, rfl, fun μ H => ⟨trivial, trivial⟩, ?_⟩
  intro v hv
  simp only [Value.cells, List.mem_cons, List.not_mem_nil, or_false] at hv
  rcases hv with rfl <;> rfl
def te69 : TE := { td := .other, sz := 1, by_ := 8, zs := [.junk] }
theorem ok69 : OkT 69 te69 := by
  refine ⟨_, Try.t69, _, Try.underlying69, ⟨(fun _ h => by cases h), (fun _ _ h => by cases h)⟩, by kernel_rfl, rfl, rfl, rfl, rfl, fun μ H => ⟨trivial, trivial⟩, ?_⟩
  intro v hv
  simp only [Value.cells, List.mem_cons, List.not_mem_nil, or_false] at hv
  rcases hv with rfl <;> rfl
def te70 : TE := { td := .other, sz := 1, by_ := 8, zs := [.junk] }
theorem ok70 : OkT 70 te70 := by
  refine ⟨_, Try.t70, _, Try.underlying70, ⟨(fun _ h => by cases h), (fun _ _ h => by cases h)⟩, by kernel_rfl, rfl, rfl, rfl, rfl, fun μ H => ⟨trivial, trivial⟩, ?_⟩
  intro v hv
  simp only [Value.cells, List.mem_cons, List.not_mem_nil, or_false] at hv
  rcases hv with rfl <;> rfl
def te71 : TE := { td := .other, sz := 1, by_ := 8, zs := [.junk] }
theorem ok71 : OkT 71 te71 := by
  refine ⟨_, Try.t71, _, Try.underlying71, ⟨(fun _ h => by cases h), (fun _ _ h => by cases h)⟩, by kernel_rfl, rfl, rfl, rfl, rfl, fun μ H => ⟨trivial, trivial⟩, ?_⟩
  intro v hv
  simp only [Value.cells, List.mem_cons, List.not_mem_nil, or_false] at hv
  rcases hv with rfl <;> rfl
def te72 : TE := { td := .other, sz := 1, by_ := 8, zs := [.junk] }
theorem ok72 : OkT 72 te72 := by
  refine ⟨_, Try.t72, _, Try.underlying72, ⟨(fun _ h => by cases h), (fun _ _ h => by cases h)⟩, by kernel_rfl, rfl, rfl, rfl, rfl, fun μ H => ⟨trivial, trivial⟩, ?_⟩
  intro v hv
  simp only [Value.cells, List.mem_cons, List.not_mem_nil, or_false] at hv
  rcases hv with rfl <;> rfl
def te73 : TE := { td := .other, sz := 1, by_ := 8, zs := [.junk] }
theorem ok73 : OkT 73 te73 := by
  refine ⟨_, Try.t73, _, Try.underlying73, ⟨(fun _ h => by cases h), (fun _ _ h => by cases h)⟩, by kernel_rfl, rfl, rfl, rfl, rfl, fun μ H => ⟨trivial, trivial⟩, ?_⟩
  intro v hv
  simp only [Value.cells, List.mem_cons, List.not_mem_nil, or_false] at hv
  rcases hv with rfl <;> rfl
def te74 : TE := { td := .other, sz := 1, by_ := 8, zs := [.junk] }
theorem ok74 : OkT 74 te74 := by
  refine ⟨_, Try.t74, _, Try.underlying74, ⟨(fun _ h => by cases h), (fun _ _ h => by cases h)⟩, by kernel_rfl, rfl, rfl, rfl, rfl, fun μ H => ⟨trivial, trivial⟩, ?_⟩
  intro v hv
  simp only [Value.cells, List.mem_cons, List.not_mem_nil, or_false] at hv
  rcases hv with rfl <;> rfl
def te75 : TE := { td := .other, sz := 1, by_ := 8, zs := [.junk] }
theorem ok75 : OkT 75 te75 := by
  refine ⟨_, Try.t75, _, Try.underlying75, ⟨(fun _ h => by cases h), (fun _ _ h => by cases h)⟩, by kernel_rfl, rfl, rfl, rfl, rfl, fun μ H => ⟨trivial, trivial⟩, ?_⟩
  intro v hv
  simp only [Value.cells, List.mem_cons, List.not_mem_nil, or_false] at hv
  rcases hv with rfl <;> rfl
def te76 : TE := { td := .slice 24, sz := 1, by_ := 24, zs := [.nils] }
theorem ok76 : OkT 76 te76 := by
  refine ⟨_, Try.t76, _, Try.underlying76, rfl, by kernel_rfl, rfl, rfl, rfl, rfl, fun μ H => ⟨⟨none, rfl⟩, trivial⟩, ?_⟩
  intro v hv
  simp only [Value.cells, List.mem_cons, List.not_mem_nil, or_false] at hv
  rcases hv with rfl <;> rfl
def te77 : TE := { td := .other, sz := 1, by_ := 8, zs := [.junk] }
theorem ok77 : OkT 77 te77 := by
  refine ⟨_, Try.t77, _, Try.underlying77, ⟨(fun _ h => by cases h), (fun _ _ h => by cases h)⟩, by kernel_rfl, rfl, rfl, rfl, rfl, fun μ H => ⟨trivial, trivial⟩, ?_⟩
  intro v hv
  simp only [Value.cells, List.mem_cons, List.not_mem_nil, or_false] at hv
  rcases hv with rfl <;> rfl
def te78 : TE := { td := .other, sz := 1, by_ := 8, zs := [.junk] }
theorem ok78 : OkT 78 te78 := by
  refine ⟨_, Try.t78, _, Try.underlying78, ⟨(fun _ h => by cases h), (fun _ _ h => by cases h)⟩, by kernel_rfl, rfl, rfl, rfl, rfl, fun μ H => ⟨trivial, trivial⟩, ?_⟩
  intro v hv
  simp only [Value.cells, List.mem_cons, List.not_mem_nil, or_false] at hv
  rcases hv with rfl <;> rfl
def te79 : TE := { td := .other, sz := 1, by_ := 8, zs := [.junk] }
theorem ok79 : OkT 79 te79 := by
  refine ⟨_, Try.t79, _, Try.underlying79, ⟨(fun _ h => by cases h), (fun _ _ h => by cases h)⟩, by kernel_rfl, rfl, rfl, rfl, rfl, fun μ H => ⟨trivial, trivial⟩, ?_⟩
  intro v hv
  simp only [Value.cells, List.mem_cons, List.not_mem_nil, or_false] at hv
  rcases hv with rfl <;> rfl
def te80 : TE := { td := .other, sz := 1, by_ := 8, zs := [.junk] }
theorem ok80 : OkT 80 te80 := by
  refine ⟨_, Try.t80, _, Try.underlying80, ⟨(fun _ h => by cases h), (fun _ _ h => by cases h)⟩, by kernel_rfl, rfl, rfl, rfl, rfl, fun μ H => ⟨trivial, trivial⟩, ?_⟩
  intro v hv
  simp only [Value.cells, List.mem_cons, List.not_mem_nil, or_false] at hv
  rcases hv with rfl <;> rfl
def te81 : TE := { td := .other, sz := 1, by_ := 8, zs := [.junk] }
theorem ok81 : OkT 81 te81 := by
  refine ⟨_, Try.t81, _, Try.underlying81, ⟨(fun _ h => by cases h), (fun _ _ h => by cases h)⟩, by kernel_rfl, rfl, rfl, rfl, rfl, fun μ H => ⟨trivial, trivial⟩, ?_⟩
  intro v hv
  simp only [Value.cells, List.mem_cons, List.not_mem_nil, or_false] at hv
  rcases hv with rfl <;> rfl
def te82 : TE := { td := .other, sz := 1, by_ := 8, zs := [.junk] }
theorem ok82 : OkT 82 te82 := by
  refine ⟨_, Try.t82, _, Try.underlying82, ⟨(fun _ h => by cases h), (fun _ _ h => by cases h)⟩, by kernel_rfl, rfl, rfl, rfl, rfl, fun μ H => ⟨trivial, trivial⟩, ?_⟩
  intro v hv
  simp only [Value.cells, List.mem_cons, List.not_mem_nil, or_false] at hv
  rcases hv with rfl <;> rfl
def te83 : TE := { td := .other, sz := 1, by_ := 8, zs := [.junk] }
theorem ok83 : OkT 83 te83 := by
  refine ⟨_, Try.t83, _, Try.underlying83, ⟨(fun _ h => by cases h), (fun _ _ h => by cases h)⟩, by kernel_rfl, rfl, rfl, rfl, rfl, fun μ H => ⟨trivial, trivial⟩, ?_⟩
  intro v hv
  simp only [Value.cells, List.mem_cons, List.not_mem_nil, or_false] at hv
  rcases hv with rfl <;> rfl
def te84 : TE := { td := .int .i64, sz := 1, by_ := 8, zs := [.int .i64 0] }
theorem ok84 : OkT 84 te84 := by
  refine ⟨_, Try.t84, _, Try.underlying84, rfl, by kernel_rfl, rfl, rfl, rfl, rfl, fun μ H => ⟨rfl, trivial⟩, ?_⟩
  intro v hv
  simp only [Value.cells, List.mem_cons, List.not_mem_nil, or_false] at hv
  rcases hv with rfl <;> rfl
def te86 : TE := { td := .other, sz := 1, by_ := 8, zs := [.junk] }
theorem ok86 : OkT 86 te86 := by
  refine ⟨_, Try.t86, _, Try.underlying86, ⟨(fun _ h => by cases h), (fun _ _ h => by cases h)⟩, by kernel_rfl, rfl, rfl, rfl, rfl, fun μ H => ⟨trivial, trivial⟩, ?_⟩
  intro v hv
  simp only [Value.cells, List.mem_cons, List.not_mem_nil, or_false] at hv
  rcases hv with rfl <;> rfl
def te87 : TE := { td := .other, sz := 1, by_ := 8, zs := [.junk] }
theorem ok87 : OkT 87 te87 := by
  refine ⟨_, Try.t87, _, Try.underlying87, ⟨(fun _ h => by cases h), (fun _ _ h => by cases h)⟩, by kernel_rfl, rfl, rfl, rfl, rfl, fun μ H => ⟨trivial, trivial⟩, ?_⟩
  intro v hv
  simp only [Value.cells, List.mem_cons, List.not_mem_nil, or_false] at hv
  rcases hv with rfl <;> rfl
def te88 : TE := { td := .other, sz := 1, by_ := 8, zs := [.junk] }
theorem ok88 : OkT 88 te88 := by
  refine ⟨_, Try.t88, _, Try.underlying88, ⟨(fun _ h => by cases h), (fun _ _ h => by cases h)⟩, by kernel_rfl, rfl, rfl, rfl, rfl, fun μ H => ⟨trivial, trivial⟩, ?_⟩
  intro v hv
  simp only [Value.cells, List.mem_cons, List.not_mem_nil, or_false] at hv
  rcases hv with rfl <;> rfl
def te89 : TE := { td := .other, sz := 1, by_ := 8, zs := [.junk] }
theorem ok89 : OkT 89 te89 := by
  refine ⟨_, Try.t89, _, Try.underlying89, ⟨(fun _ h => by cases h), (fun _ _ h => by cases h)⟩, by kernel_rfl, rfl, rfl, rfl, rfl, fun μ H => ⟨trivial, trivial⟩, ?_⟩
  intro v hv
  simp only [Value.cells, List.mem_cons, List.not_mem_nil, or_false] at hv
  rcases hv with rfl <;> rfl
def te91 : TE := { td := .other, sz := 1, by_ := 8, zs := [.junk] }
theorem ok91 : OkT 91 te91 := by
  refine ⟨_, Try.t91, _, Try.underlying91, ⟨(fun _ h => by cases h), (fun _ _ h => by cases h)⟩, by kernel_rfl, rfl, rfl, rfl, rfl, fun μ H => ⟨trivial, trivial⟩, ?_⟩
  intro v hv
  simp only [Value.cells, List.mem_cons, List.not_mem_nil, or_false] at hv
  rcases hv with rfl <;> rfl
def te92 : TE := { td := .other, sz := 1, by_ := 8, zs := [.junk] }
theorem ok92 : OkT 92 te92 := by
  refine ⟨_, Try.t92, _, Try.underlying92, ⟨(fun _ h => by cases h), (fun _ _ h => by cases h)⟩, by kernel_rfl, rfl, rfl, rfl, rfl, fun μ H => ⟨trivial, trivial⟩, ?_⟩
  intro v hv
  simp only [Value.cells, List.mem_cons, List.not_mem_nil, or_false] at hv
  rcases hv with rfl <;> rfl
def te93 : TE := { td := .int .u64, sz := 1, by_ := 8, zs := [.int .u64 0] }
theorem ok93 : OkT 93 te93 := by
  refine ⟨_, Try.t93, _, Try.underlying93, rfl, by kernel_rfl, rfl, rfl, rfl, rfl, fun μ H => ⟨rfl, trivial⟩, ?_⟩
  intro v hv
  simp only [Value.cells, List.mem_cons, List.not_mem_nil, or_false] at hv
  rcases hv with rfl <;> rfl
def te94 : TE := { td := .other, sz := 1, by_ := 8, zs := [.junk] }
theorem ok94 : OkT 94 te94 := by
  refine ⟨_, Try.t94, _, Try.underlying94, ⟨(fun _ h => by cases h), (fun _ _ h => by cases h)⟩, by kernel_rfl, rfl, rfl, rfl, rfl, fun μ H => ⟨trivial, trivial⟩, ?_⟩
  intro v hv
  simp only [Value.cells, List.mem_cons, List.not_mem_nil, or_false] at hv
  rcases hv with rfl <;> rfl
def te95 : TE := { td := .other, sz := 1, by_ := 8, zs := [.junk] }
theorem ok95 : OkT 95 te95 := by
  refine ⟨_, Try.t95, _, Try.underlying95, ⟨(fun _ h => by cases h), (fun _ _ h => by cases h)⟩, by kernel_rfl, rfl, rfl, rfl, rfl, fun μ H => ⟨trivial, trivial⟩, ?_⟩
  intro v hv
  simp only [Value.cells, List.mem_cons, List.not_mem_nil, or_false] at hv
  rcases hv with rfl <;> rfl
def te96 : TE := { td := .other, sz := 1, by_ := 8, zs := [.junk] }
theorem ok96 : OkT 96 te96 := by
  refine ⟨_, Try.t96, _, Try.underlying96, ⟨(fun _ h => by cases h), (fun _ _ h => by cases h)⟩, by kernel_rfl, rfl, rfl, rfl, rfl, fun μ H => ⟨trivial, trivial⟩, ?_⟩
  intro v hv
  simp only [Value.cells, List.mem_cons, List.not_mem_nil, or_false] at hv
  rcases hv with rfl <;> rfl
def te97 : TE := { td := .ptr 3, sz := 1, by_ := 8, zs := [.junk] }
theorem ok97 : OkT 97 te97 := by
  refine ⟨_, Try.t97, _, Try.underlying97, rfl, by kernel_rfl, rfl, rfl, rfl, rfl, fun μ H => ⟨trivial, trivial⟩, ?_⟩
  intro v hv
  simp only [Value.cells, List.mem_cons, List.not_mem_nil, or_false] at hv
  rcases hv with rfl <;> rfl
def te98 : TE := { td := .other, sz := 1, by_ := 8, zs := [.junk] }
theorem ok98 : OkT 98 te98 := by
  refine ⟨_, Try.t98, _, Try.underlying98, ⟨(fun _ h => by cases h), (fun _ _ h => by cases h)⟩, by kernel_rfl, rfl, rfl, rfl, rfl, fun μ H => ⟨trivial, trivial⟩, ?_⟩
  intro v hv
  simp only [Value.cells, List.mem_cons, List.not_mem_nil, or_false] at hv
  rcases hv with rfl <;> rfl
def te99 : TE := { td := .ptr 93, sz := 1, by_ := 8, zs := [.junk] }
theorem ok99 : OkT 99 te99 := by
  refine ⟨_, Try.t99, _, Try.underlying99, rfl, by kernel_rfl, rfl, rfl, rfl, rfl, fun μ H => ⟨trivial, trivial⟩, ?_⟩
  intro v hv
  simp only [Value.cells, List.mem_cons, List.not_mem_nil, or_false] at hv
  rcases hv with rfl <;> rfl
def te101 : TE := { td := .other, sz := 1, by_ := 8, zs := [.junk] }
theorem ok101 : OkT 101 te101 := by
  refine ⟨_, Try.t101, _, Try.underlying101, ⟨(fun _ h => by cases h), (fun _ _ h => by cases h)⟩, by kernel_rfl, rfl, rfl, rfl, rfl, fun μ H => ⟨trivial, trivial⟩, ?_⟩
  intro v hv
  simp only [Value.cells, List.mem_cons, List.not_mem_nil, or_false] at hv
  rcases hv with rfl <;> rfl
def te102 : TE := { td := .other, sz := 1, by_ := 8, zs := [.junk] }
theorem ok102 : OkT 102 te102 := by
  refine ⟨_, Try.t102, _, Try.underlying102, ⟨(fun _ h => by cases h), (fun _ _ h => by cases h)⟩, by kernel_rfl, rfl, rfl, rfl, rfl, fun μ H => ⟨trivial, trivial⟩, ?_⟩
  intro v hv
  simp only [Value.cells, List.mem_cons, List.not_mem_nil, or_false] at hv
  rcases hv with rfl <;> rfl
def te108 : TE := { td := .other, sz := 1, by_ := 8, zs := [.junk] }
theorem ok108 : OkT 108 te108 := by
  refine ⟨_, Try.t108, _, Try.underlying108, ⟨(fun _ h => by cases h), (fun _ _ h => by cases h)⟩, by kernel_rfl, rfl, rfl, rfl, rfl, fun μ H => ⟨trivial, trivial⟩, ?_⟩
  intro v hv
  simp only [Value.cells, List.mem_cons, List.not_mem_nil, or_false] at hv
  rcases hv with rfl <;> rfl
def te112 : TE := { td := .ptr 5, sz := 1, by_ := 8, zs := [.junk] }
theorem ok112 : OkT 112 te112 := by
  refine ⟨_, Try.t112, _, Try.underlying112, rfl, by kernel_rfl, rfl, rfl, rfl, rfl, fun μ H => ⟨trivial, trivial⟩, ?_⟩
  intro v hv
  simp only [Value.cells, List.mem_cons, List.not_mem_nil, or_false] at hv
  rcases hv with rfl <;> rfl

def Tl : List (TypeId × TE) := [(1, te1), (2, te2), (3, te3), (4, te4), (5, te5), (21, te21), (22, te22), (23, te23), (24, te24), (25, te25), (26, te26), (27, te27), (28, te28), (30, te30), (31, te31), (32, te32), (34, te34), (35, te35), (36, te36), (37, te37), (39, te39), (40, te40), (41, te41), (42, te42), (43, te43), (44, te44), (45, te45), (46, te46), (47, te47), (48, te48), (49, te49), (51, te51), (52, te52), (53, te53), (54, te54), (55, te55), (56, te56), (57, te57), (58, te58), (59, te59), (60, te60), (61, te61), (62, te62), (63, te63), (64, te64), (65, te65), (66, te66), (67, te67), (68, te68), (69, te69), (70, te70), (71, te71), (72, te72), (73, te73), (74, te74), (75, te75), (76, te76), (77, te77), (78, te78), (79, te79), (80, te80), (81, te81), (82, te82), (83, te83), (84, te84), (86, te86), (87, te87), (88, te88), (89, te89), (91, te91), (92, te92), (93, te93), (94, te94), (95, te95), (96, te96), (97, te97), (98, te98), (99, te99), (101, te101), (102, te102), (108, te108), (112, te112)]
def Ty : Tab := fun t => (Tl.find? fun p => p.1 == t).map (·.2)
theorem allT : AllT Tl := ⟨ok1, ⟨ok2, ⟨ok3, ⟨ok4, ⟨ok5, ⟨ok21, ⟨ok22, ⟨ok23, ⟨ok24, ⟨ok25, ⟨ok26, ⟨ok27, ⟨ok28, ⟨ok30, ⟨ok31, ⟨ok32, ⟨ok34, ⟨ok35, ⟨ok36, ⟨ok37, ⟨ok39, ⟨ok40, ⟨ok41, ⟨ok42, ⟨ok43, ⟨ok44, ⟨ok45, ⟨ok46, ⟨ok47, ⟨ok48, ⟨ok49, ⟨ok51, ⟨ok52, ⟨ok53, ⟨ok54, ⟨ok55, ⟨ok56, ⟨ok57, ⟨ok58, ⟨ok59, ⟨ok60, ⟨ok61, ⟨ok62, ⟨ok63, ⟨ok64, ⟨ok65, ⟨ok66, ⟨ok67, ⟨ok68, ⟨ok69, ⟨ok70, ⟨ok71, ⟨ok72, ⟨ok73, ⟨ok74, ⟨ok75, ⟨ok76, ⟨ok77, ⟨ok78, ⟨ok79, ⟨ok80, ⟨ok81, ⟨ok82, ⟨ok83, ⟨ok84, ⟨ok86, ⟨ok87, ⟨ok88, ⟨ok89, ⟨ok91, ⟨ok92, ⟨ok93, ⟨ok94, ⟨ok95, ⟨ok96, ⟨ok97, ⟨ok98, ⟨ok99, ⟨ok101, ⟨ok102, ⟨ok108, ⟨ok112, trivial⟩⟩⟩⟩⟩⟩⟩⟩⟩⟩⟩⟩⟩⟩⟩⟩⟩⟩⟩⟩⟩⟩⟩⟩⟩⟩⟩⟩⟩⟩⟩⟩⟩⟩⟩⟩⟩⟩⟩⟩⟩⟩⟩⟩⟩⟩⟩⟩⟩⟩⟩⟩⟩⟩⟩⟩⟩⟩⟩⟩⟩⟩⟩⟩⟩⟩⟩⟩⟩⟩⟩⟩⟩⟩⟩⟩⟩⟩⟩⟩⟩⟩
theorem tyOk : TabOk Try.prog Ty := by
  intro t e h
  unfold Ty at h
  simp only [Option.map_eq_some_iff] at h
  obtain ⟨p, hp, rfl⟩ := h
  have h1 := List.find?_some hp
  have h2 := List.mem_of_find?_eq_some hp
  have h3 : p.1 = t := by simpa using h1
  subst h3
  exact allT_mem allT p h2
@[go_sem] theorem Ty_1 : Ty 1 = some { td := .other, sz := 1, by_ := 8, zs := [.junk] } := by kernel_rfl
@[go_sem] theorem Ty_2 : Ty 2 = some { td := .int .i64, sz := 1, by_ := 8, zs := [.int .i64 0] } := by kernel_rfl
@[go_sem] theorem Ty_3 : Ty 3 = some { td := .int .i64, sz := 1, by_ := 8, zs := [.int .i64 0] } := by kernel_rfl
@[go_sem] theorem Ty_4 : Ty 4 = some { td := .bool, sz := 1, by_ := 1, zs := [.bool false] } := by kernel_rfl
@[go_sem] theorem Ty_5 : Ty 5 = some { td := .int .u8, sz := 1, by_ := 1, zs := [.int .u8 0] } := by kernel_rfl
@[go_sem] theorem Ty_21 : Ty 21 = some { td := .int .i32, sz := 1, by_ := 4, zs := [.int .i32 0] } := by kernel_rfl
@[go_sem] theorem Ty_22 : Ty 22 = some { td := .slice 5, sz := 1, by_ := 24, zs := [.nils] } := by kernel_rfl
@[go_sem] theorem Ty_23 : Ty 23 = some { td := .other, sz := 1, by_ := 8, zs := [.junk] } := by kernel_rfl
@[go_sem] theorem Ty_24 : Ty 24 = some { td := .slice 2, sz := 1, by_ := 24, zs := [.nils] } := by kernel_rfl
@[go_sem] theorem Ty_25 : Ty 25 = some { td := .other, sz := 1, by_ := 8, zs := [.junk] } := by kernel_rfl
@[go_sem] theorem Ty_26 : Ty 26 = some { td := .other, sz := 1, by_ := 8, zs := [.junk] } := by kernel_rfl
@[go_sem] theorem Ty_27 : Ty 27 = some { td := .struct [(0, 2), (1, 24)], sz := 2, by_ := 32, zs := [.int .i64 0, .nils] } := by kernel_rfl
@[go_sem] theorem Ty_28 : Ty 28 = some { td := .struct [(0, 2), (1, 24)], sz := 2, by_ := 32, zs := [.int .i64 0, .nils] } := by kernel_rfl
@[go_sem] theorem Ty_30 : Ty 30 = some { td := .other, sz := 1, by_ := 8, zs := [.junk] } := by kernel_rfl
@[go_sem] theorem Ty_31 : Ty 31 = some { td := .other, sz := 1, by_ := 8, zs := [.junk] } := by kernel_rfl
@[go_sem] theorem Ty_32 : Ty 32 = some { td := .flt .f32, sz := 1, by_ := 4, zs := [.flt .f32 (some 0)] } := by kernel_rfl
@[go_sem] theorem Ty_34 : Ty 34 = some { td := .other, sz := 1, by_ := 8, zs := [.junk] } := by kernel_rfl
@[go_sem] theorem Ty_35 : Ty 35 = some { td := .other, sz := 1, by_ := 8, zs := [.junk] } := by kernel_rfl
@[go_sem] theorem Ty_36 : Ty 36 = some { td := .other, sz := 1, by_ := 8, zs := [.junk] } := by kernel_rfl
@[go_sem] theorem Ty_37 : Ty 37 = some { td := .flt .f64, sz := 1, by_ := 8, zs := [.flt .f64 (some 0)] } := by kernel_rfl
@[go_sem] theorem Ty_39 : Ty 39 = some { td := .other, sz := 1, by_ := 8, zs := [.junk] } := by kernel_rfl
@[go_sem] theorem Ty_40 : Ty 40 = some { td := .other, sz := 1, by_ := 8, zs := [.junk] } := by kernel_rfl
@[go_sem] theorem Ty_41 : Ty 41 = some { td := .other, sz := 1, by_ := 8, zs := [.junk] } := by kernel_rfl
@[go_sem] theorem Ty_42 : Ty 42 = some { td := .other, sz := 1, by_ := 8, zs := [.junk] } := by kernel_rfl
@[go_sem] theorem Ty_43 : Ty 43 = some { td := .other, sz := 1, by_ := 8, zs := [.junk] } := by kernel_rfl
@[go_sem] theorem Ty_44 : Ty 44 = some { td := .ptr 62, sz := 1, by_ := 8, zs := [.junk] } := by kernel_rfl
@[go_sem] theorem Ty_45 : Ty 45 = some { td := .other, sz := 1, by_ := 8, zs := [.junk] } := by kernel_rfl
@[go_sem] theorem Ty_46 : Ty 46 = some { td := .other, sz := 1, by_ := 8, zs := [.junk] } := by kernel_rfl
@[go_sem] theorem Ty_47 : Ty 47 = some { td := .other, sz := 1, by_ := 8, zs := [.junk] } := by kernel_rfl
@[go_sem] theorem Ty_48 : Ty 48 = some { td := .other, sz := 1, by_ := 8, zs := [.junk] } := by kernel_rfl
@[go_sem] theorem Ty_49 : Ty 49 = some { td := .other, sz := 1, by_ := 8, zs := [.junk] } := by kernel_rfl
@[go_sem] theorem Ty_51 : Ty 51 = some { td := .other, sz := 1, by_ := 8, zs := [.junk] } := by kernel_rfl
@[go_sem] theorem Ty_52 : Ty 52 = some { td := .other, sz := 1, by_ := 8, zs := [.junk] } := by kernel_rfl
@[go_sem] theorem Ty_53 : Ty 53 = some { td := .other, sz := 1, by_ := 8, zs := [.junk] } := by kernel_rfl
@[go_sem] theorem Ty_54 : Ty 54 = some { td := .other, sz := 1, by_ := 8, zs := [.junk] } := by kernel_rfl
@[go_sem] theorem Ty_55 : Ty 55 = some { td := .other, sz := 1, by_ := 8, zs := [.junk] } := by kernel_rfl
@[go_sem] theorem Ty_56 : Ty 56 = some { td := .other, sz := 1, by_ := 8, zs := [.junk] } := by kernel_rfl
@[go_sem] theorem Ty_57 : Ty 57 = some { td := .other, sz := 1, by_ := 8, zs := [.junk] } := by kernel_rfl
@[go_sem] theorem Ty_58 : Ty 58 = some { td := .other, sz := 1, by_ := 8, zs := [.junk] } := by kernel_rfl
@[go_sem] theorem Ty_59 : Ty 59 = some { td := .other, sz := 1, by_ := 8, zs := [.junk] } := by kernel_rfl
@[go_sem] theorem Ty_60 : Ty 60 = some { td := .int .u64, sz := 1, by_ := 8, zs := [.int .u64 0] } := by kernel_rfl
@[go_sem] theorem Ty_61 : Ty 61 = some { td := .struct [(0, 22), (1, 3), (2, 60)], sz := 3, by_ := 40, zs := [.nils, .int .i64 0, .int .u64 0] } := by kernel_rfl
@[go_sem] theorem Ty_62 : Ty 62 = some { td := .struct [(0, 22), (1, 3), (2, 60)], sz := 3, by_ := 40, zs := [.nils, .int .i64 0, .int .u64 0] } := by kernel_rfl
@[go_sem] theorem Ty_63 : Ty 63 = some { td := .other, sz := 1, by_ := 8, zs := [.junk] } := by kernel_rfl
@[go_sem] theorem Ty_64 : Ty 64 = some { td := .other, sz := 1, by_ := 8, zs := [.junk] } := by kernel_rfl
@[go_sem] theorem Ty_65 : Ty 65 = some { td := .int .u64, sz := 1, by_ := 8, zs := [.int .u64 0] } := by kernel_rfl
@[go_sem] theorem Ty_66 : Ty 66 = some { td := .other, sz := 1, by_ := 8, zs := [.junk] } := by kernel_rfl
@[go_sem] theorem Ty_67 : Ty 67 = some { td := .int .u32, sz := 1, by_ := 4, zs := [.int .u32 0] } := by kernel_rfl
@[go_sem] theorem Ty_68 : Ty 68 = some { td := .other, sz := 1, by_ := 8, zs := [.junk] } := by kernel_rfl
@[go_sem] theorem Ty_69 : Ty 69 = some { td := .other, sz := 1, by_ := 8, zs := [.junk] } := by kernel_rfl
@[go_sem] theorem Ty_70 : Ty 70 = some { td := .other, sz := 1, by_ := 8, zs := [.junk] } := by kernel_rfl
@[go_sem] theorem Ty_71 : Ty 71 = some { td := .other, sz := 1, by_ := 8, zs := [.junk] } := by kernel_rfl
@[go_sem] theorem Ty_72 : Ty 72 = some { td := .other, sz := 1, by_ := 8, zs := [.junk] } := by kernel_rfl
@[go_sem] theorem Ty_73 : Ty 73 = some { td := .other, sz := 1, by_ := 8, zs := [.junk] } := by kernel_rfl
@[go_sem] theorem Ty_74 : Ty 74 = some { td := .other, sz := 1, by_ := 8, zs := [.junk] } := by kernel_rfl
@[go_sem] theorem Ty_75 : Ty 75 = some { td := .other, sz := 1, by_ := 8, zs := [.junk] } := by kernel_rfl
@[go_sem] theorem Ty_76 : Ty 76 = some { td := .slice 24, sz := 1, by_ := 24, zs := [.nils] } := by kernel_rfl
@[go_sem] theorem Ty_77 : Ty 77 = some { td := .other, sz := 1, by_ := 8, zs := [.junk] } := by kernel_rfl
@[go_sem] theorem Ty_78 : Ty 78 = some { td := .other, sz := 1, by_ := 8, zs := [.junk] } := by kernel_rfl
@[go_sem] theorem Ty_79 : Ty 79 = some { td := .other, sz := 1, by_ := 8, zs := [.junk] } := by kernel_rfl
@[go_sem] theorem Ty_80 : Ty 80 = some { td := .other, sz := 1, by_ := 8, zs := [.junk] } := by kernel_rfl
@[go_sem] theorem Ty_81 : Ty 81 = some { td := .other, sz := 1, by_ := 8, zs := [.junk] } := by kernel_rfl
@[go_sem] theorem Ty_82 : Ty 82 = some { td := .other, sz := 1, by_ := 8, zs := [.junk] } := by kernel_rfl
@[go_sem] theorem Ty_83 : Ty 83 = some { td := .other, sz := 1, by_ := 8, zs := [.junk] } := by kernel_rfl
@[go_sem] theorem Ty_84 : Ty 84 = some { td := .int .i64, sz := 1, by_ := 8, zs := [.int .i64 0] } := by kernel_rfl
@[go_sem] theorem Ty_86 : Ty 86 = some { td := .other, sz := 1, by_ := 8, zs := [.junk] } := by kernel_rfl
@[go_sem] theorem Ty_87 : Ty 87 = some { td := .other, sz := 1, by_ := 8, zs := [.junk] } := by kernel_rfl
@[go_sem] theorem Ty_88 : Ty 88 = some { td := .other, sz := 1, by_ := 8, zs := [.junk] } := by kernel_rfl
@[go_sem] theorem Ty_89 : Ty 89 = some { td := .other, sz := 1, by_ := 8, zs := [.junk] } := by kernel_rfl
@[go_sem] theorem Ty_91 : Ty 91 = some { td := .other, sz := 1, by_ := 8, zs := [.junk] } := by kernel_rfl
@[go_sem] theorem Ty_92 : Ty 92 = some { td := .other, sz := 1, by_ := 8, zs := [.junk] } := by kernel_rfl
@[go_sem] theorem Ty_93 : Ty 93 = some { td := .int .u64, sz := 1, by_ := 8, zs := [.int .u64 0] } := by kernel_rfl
@[go_sem] theorem Ty_94 : Ty 94 = some { td := .other, sz := 1, by_ := 8, zs := [.junk] } := by kernel_rfl
@[go_sem] theorem Ty_95 : Ty 95 = some { td := .other, sz := 1, by_ := 8, zs := [.junk] } := by kernel_rfl
@[go_sem] theorem Ty_96 : Ty 96 = some { td := .other, sz := 1, by_ := 8, zs := [.junk] } := by kernel_rfl
@[go_sem] theorem Ty_97 : Ty 97 = some { td := .ptr 3, sz := 1, by_ := 8, zs := [.junk] } := by kernel_rfl
@[go_sem] theorem Ty_98 : Ty 98 = some { td := .other, sz := 1, by_ := 8, zs := [.junk] } := by kernel_rfl
@[go_sem] theorem Ty_99 : Ty 99 = some { td := .ptr 93, sz := 1, by_ := 8, zs := [.junk] } := by kernel_rfl
@[go_sem] theorem Ty_101 : Ty 101 = some { td := .other, sz := 1, by_ := 8, zs := [.junk] } := by kernel_rfl
@[go_sem] theorem Ty_102 : Ty 102 = some { td := .other, sz := 1, by_ := 8, zs := [.junk] } := by kernel_rfl
@[go_sem] theorem Ty_108 : Ty 108 = some { td := .other, sz := 1, by_ := 8, zs := [.junk] } := by kernel_rfl
@[go_sem] theorem Ty_112 : Ty 112 = some { td := .ptr 5, sz := 1, by_ := 8, zs := [.junk] } := by kernel_rfl
end Go.Proofs.Ytpbafacehmjdmaa
