/- Plain facts on floats: arithmetic at any operands, a NaN drawn or not. -/
import Derived.WalkKit
import Derived.WalkLawsBesides
import Derived.Deep.Draws
import Derived.Test.YtajekmpjebhaoaaRows
namespace Go.Proofs.Ytajekmpjebhaoaa
open Go.RowKit
set_option linter.unusedSimpArgs false
set_option linter.unusedVariables false

/-- The NaN that an invalid operation draws. -/
def nanOf (k : FloatKind) (x y : Nat) (w : World) : Nat := (Question.nanBits k x y).cut (w.tape w.drawn (.nanBits k x y))

theorem run_float_nan {P : Program} (op : BinOp) (t : TypeId) (k : FloatKind) (x y : Nat) (w : World) (ho : op = .add ∨ op = .sub ∨ op = .mul ∨ op = .quo) (h : floatBits op k x y = none) :
    (binOp op t (.float k x) (.float k y)).run P w = .ok (.float k (nanOf k x y w)) w.drew := by
  unfold floatBits at h
  rcases ho with rfl | rfl | rfl | rfl <;> simp only at h <;> simp [binOp, Op.floatArith, h, nanOf, choose, Question.forced] <;> rfl

theorem read_nan32 (t : Nat) : ∃ s f, Ieee.single.read ((t % 2) * 2 ^ 31 + 0x7f800000 + 1 + (t / 2) % (2 ^ 23 - 1)) = .nan s f := by
  have h1 : (t / 2) % (2 ^ 23 - 1) < 2 ^ 23 - 1 := Nat.mod_lt _ (by decide)
  have h2 : t % 2 < 2 := Nat.mod_lt _ (by decide)
  generalize (t / 2) % (2 ^ 23 - 1) = m at *
  generalize t % 2 = s at *
  unfold Ieee.Format.read
  have e1 : Ieee.single.signWeight = 2147483648 := rfl
  have e2 : Ieee.single.infRung = 2139095040 := rfl
  have e3 : Ieee.single.binade = 8388608 := rfl
  simp only [e1, e2, e3]
  have hr : (s * 2 ^ 31 + 2139095040 + 1 + m) % 2147483648 = 2139095041 + m := by omega
  rw [hr, if_neg (by omega), if_neg (by omega), if_neg (by omega)]
  exact ⟨_, _, rfl⟩

theorem read_nan64 (t : Nat) : ∃ s f, Ieee.double.read ((t % 2) * 2 ^ 63 + 0x7ff0000000000000 + 1 + (t / 2) % (2 ^ 52 - 1)) = .nan s f := by
  have h1 : (t / 2) % (2 ^ 52 - 1) < 2 ^ 52 - 1 := Nat.mod_lt _ (by decide)
  have h2 : t % 2 < 2 := Nat.mod_lt _ (by decide)
  generalize (t / 2) % (2 ^ 52 - 1) = m at *
  generalize t % 2 = s at *
  unfold Ieee.Format.read
  have e1 : Ieee.double.signWeight = 9223372036854775808 := rfl
  have e2 : Ieee.double.infRung = 9218868437227405312 := rfl
  have e3 : Ieee.double.binade = 4503599627370496 := rfl
  simp only [e1, e2, e3]
  have hr : (s * 2 ^ 63 + 0x7ff0000000000000 + 1 + m) % 9223372036854775808 = 9218868437227405313 + m := by omega
  rw [hr, if_neg (by omega), if_neg (by omega), if_neg (by omega)]
  exact ⟨_, _, rfl⟩

theorem read_nanOf (k : FloatKind) (x y : Nat) (w : World) : ∃ s f, k.format.read (nanOf k x y w) = .nan s f := by
  cases k
  · exact read_nan32 _
  · exact read_nan64 _

/-- A float up to NaN: 'none' is a NaN. -/
def can (k : FloatKind) (b : Nat) : Option Nat := if (k.format.read b).isNaN then none else some b

theorem can_nanOf (k : FloatKind) (x y : Nat) (w : World) : can k (nanOf k x y w) = none := by
  obtain ⟨s, f, h⟩ := read_nanOf k x y w
  simp [can, h, Ieee.Datum.isNaN]


/-- Arithmetic on floats, a NaN drawn or not, in one form: the bits and how many draws. -/
def fop (op : BinOp) (k : FloatKind) (x y : Nat) (w : World) : Nat := (floatBits op k x y).getD (nanOf k x y w)
def fdr (op : BinOp) (k : FloatKind) (x y : Nat) : Nat := if (floatBits op k x y).isSome then 0 else 1

theorem run_fop {P : Program} (op : BinOp) (t : TypeId) (k : FloatKind) (x y : Nat) (w : World) (ho : op = .add ∨ op = .sub ∨ op = .mul ∨ op = .quo) :
    (binOp op t (.float k x) (.float k y)).run P w = .ok (.float k (fop op k x y w)) (w.drewN (fdr op k x y)) := by
  cases h : floatBits op k x y with
  | none => rw [run_float_nan op t k x y w ho h]; simp [fop, fdr, h]; rfl
  | some r => rw [run_float_arith w op t k x y r h]; simp [fop, fdr, h]; rfl

@[go_sem] theorem run_fadd {P : Program} (t : TypeId) (k : FloatKind) (x y : Nat) (w : World) :
    (binOp .add t (.float k x) (.float k y)).run P w = .ok (.float k (fop .add k x y w)) (w.drewN (fdr .add k x y)) := run_fop .add t k x y w (by simp)
@[go_sem] theorem run_fsub {P : Program} (t : TypeId) (k : FloatKind) (x y : Nat) (w : World) :
    (binOp .sub t (.float k x) (.float k y)).run P w = .ok (.float k (fop .sub k x y w)) (w.drewN (fdr .sub k x y)) := run_fop .sub t k x y w (by simp)
@[go_sem] theorem run_fmul {P : Program} (t : TypeId) (k : FloatKind) (x y : Nat) (w : World) :
    (binOp .mul t (.float k x) (.float k y)).run P w = .ok (.float k (fop .mul k x y w)) (w.drewN (fdr .mul k x y)) := run_fop .mul t k x y w (by simp)
@[go_sem] theorem run_fquo {P : Program} (t : TypeId) (k : FloatKind) (x y : Nat) (w : World) :
    (binOp .quo t (.float k x) (.float k y)).run P w = .ok (.float k (fop .quo k x y w)) (w.drewN (fdr .quo k x y)) := run_fop .quo t k x y w (by simp)

theorem order_nan_left (k : FloatKind) (a b : Nat) (h : (k.format.read a).isNaN = true) : k.format.order a b = none := by
  unfold Ieee.Format.order
  cases hr : k.format.read a <;> simp [hr, Ieee.Datum.isNaN] at h
  rfl

/-- IsFinite: x - x = 0. -/
def finB (k : FloatKind) (b : Nat) : Bool := match k.format.sub b b with | some r => k.format.order r 0 == some .eq | none => false

theorem fop_finB (k : FloatKind) (b : Nat) (w : World) : (k.format.order (fop .sub k b b w) 0 == some .eq) = finB k b := by
  unfold finB fop floatBits
  cases h : k.format.sub b b with
  | some r => rfl
  | none =>
    simp only [Option.getD_none]
    obtain ⟨s, f, hr⟩ := read_nanOf k b b w
    rw [order_nan_left k _ _ (by rw [hr]; rfl)]
    rfl

@[go_sem] theorem run_store_float (P : Program) (w : World) (a : Addr) (k : FloatKind) (b : Nat) (m : Mode) : (store a (.float k b) m).run P w = stored P w a (.float k b) m := run_store P w a _ m rfl

theorem below_drewN' {B : Nat} {a w : World} {n : Nat} (h : Below B a w) : Below B a (w.drewN n) := ⟨h.os, h.tape, h.output, h.size, h.block⟩

theorem below_next {a b c : World} (h : Below a.heap.size a b) (k : Below b.heap.size b c) : Below a.heap.size a c := h.trans (k.mono h.size)
theorem below_alloc' {a b : World} (h : Below a.heap.size a b) (o : Obj) : Below a.heap.size a (b.alloc o) := h.alloc h.size o

theorem bcell {B : Nat} {W w1 : World} (hb : Below B W w1) : (∀ b o, b < B → w1.cell? ⟨b, o, none⟩ = W.cell? ⟨b, o, none⟩) ∧ (∀ b o, b < B → w1.frozen? ⟨b, o, none⟩ = W.frozen? ⟨b, o, none⟩) :=
  ⟨fun b o h => hb.cell (p := ⟨b, o, none⟩) h, fun b o h => hb.frozen (p := ⟨b, o, none⟩) h⟩

theorem IsFinite_any (b : Nat) (w : World) : Calls Try.prog 66 #[.float .f32 b] w fun e w' => e = .returned (.bool (finB .f32 b)) ∧ ∃ n, w' = w.drewN n := by
  have H := fop_finB .f32 b
  go_enter Try.func66, Try.ntmps66
  go_wp2
  go_ret
  exact ⟨rfl, _, rfl⟩

theorem l01Finite_any (b : Nat) (w : World) : Calls Try.prog 72 #[.float .f32 b] w fun e w' => e = .returned (.bool (finB .f32 b)) ∧ ∃ n, w' = w.drewN n := by
  have H := fop_finB .f32 b
  go_enter Try.func72, Try.ntmps72
  go_wp2
  go_ret
  exact ⟨rfl, _, rfl⟩

end Go.Proofs.Ytajekmpjebhaoaa
