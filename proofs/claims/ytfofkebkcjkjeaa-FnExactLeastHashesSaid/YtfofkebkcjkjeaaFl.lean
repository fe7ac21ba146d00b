/- Plain facts on floats: arithmetic at any operands, a NaN drawn or not. -/
import Derived.WalkKit
import Derived.WalkLawsBesides
import Derived.Deep.Draws
import Derived.Lib.Hide
import Derived.Deep.QuietTactic
import Derived.BigQuiet
import Derived.Deep.RegionHeld3
import Derived.Laws.Externs
import Derived.Test.YtfofkebkcjkjeaaKey
import Derived.Test.YtfofkebkcjkjeaaRows
namespace Go.Proofs.Ytfofkebkcjkjeaa
open Go.RowKit
set_option linter.unusedSimpArgs false
set_option linter.unusedVariables false

/-- The NaN that an invalid operation draws. -/
def nanOf (k : FloatKind) (x y : Nat) (w : World) : Nat := (Question.nanBits k x y).cut (w.tape w.drawn (.nanBits k x y))

theorem run_float_nan {P : Program} (op : BinOp) (t : TypeId) (k : FloatKind) (x y : Nat) (w : World) (ho : op = .add ∨ op = .sub ∨ op = .mul ∨ op = .quo) (h : floatBits op k x y = none) :
    (binOp op t (.float k x) (.float k y)).run P w = .ok (.float k (nanOf k x y w)) w.drew := by
  unfold floatBits at h
  rcases ho with rfl | rfl | rfl | rfl <;> simp only at h <;> simp [binOp, Op.floatArith, h, nanOf, choose, Question.forced] <;> rfl

theorem read_nan32 (t : Nat) : ∃ s f, Ieee.single.read ((t % 2) * 2 ^ 31 + 0x7f800000 + 1 + (t / 2) % (2 ^ 23 - 1)) = .nan s f := by
  have h1 : (t / 2) % (2 ^ 23 - 1) < 2 ^ 23 - 1 := Nat.mod_lt _ (by decide)
  have h2 : t % 2 < 2 := Nat.mod_lt _ (by decide)
  generalize (t / 2) % (2 ^ 23 - 1) = m at *
  generalize t % 2 = s at *
  unfold Ieee.Format.read
  have e1 : Ieee.single.signWeight = 2147483648 := rfl
  have e2 : Ieee.single.infRung = 2139095040 := rfl
  have e3 : Ieee.single.binade = 8388608 := rfl
  simp only [e1, e2, e3]
  have hr : (s * 2 ^ 31 + 2139095040 + 1 + m) % 2147483648 = 2139095041 + m := by omega
  rw [hr, if_neg (by omega), if_neg (by omega), if_neg (by omega)]
  exact ⟨_, _, rfl⟩

theorem read_nan64 (t : Nat) : ∃ s f, Ieee.double.read ((t % 2) * 2 ^ 63 + 0x7ff0000000000000 + 1 + (t / 2) % (2 ^ 52 - 1)) = .nan s f := by
  have h1 : (t / 2) % (2 ^ 52 - 1) < 2 ^ 52 - 1 := Nat.mod_lt _ (by decide)
  have h2 : t % 2 < 2 := Nat.mod_lt _ (by decide)
  generalize (t / 2) % (2 ^ 52 - 1) = m at *
  generalize t % 2 = s at *
  unfold Ieee.Format.read
  have e1 : Ieee.double.signWeight = 9223372036854775808 := rfl
  have e2 : Ieee.double.infRung = 9218868437227405312 := rfl
  have e3 : Ieee.double.binade = 4503599627370496 := rfl
  simp only [e1, e2, e3]
  have hr : (s * 2 ^ 63 + 0x7ff0000000000000 + 1 + m) % 9223372036854775808 = 9218868437227405313 + m := by omega
  rw [hr, if_neg (by omega), if_neg (by omega), if_neg (by omega)]
  exact ⟨_, _, rfl⟩

theorem read_nanOf (k : FloatKind) (x y : Nat) (w : World) : ∃ s f, k.format.read (nanOf k x y w) = .nan s f := by
  cases k
  · exact read_nan32 _
  · exact read_nan64 _

theorem isNum_nanOf (k : FloatKind) (x y : Nat) (w : World) : isNum k (nanOf k x y w) = false := by
  obtain ⟨s, f, h⟩ := read_nanOf k x y w
  simp [isNum, h, Ieee.Datum.isNaN]

/-- A float up to NaN: 'none' is a NaN. -/
def can (k : FloatKind) (b : Nat) : Option Nat := if isNum k b then some b else none

theorem can_num {k : FloatKind} {b : Nat} (h : isNum k b = true) : can k b = some b := by simp [can, h]
theorem can_nan {k : FloatKind} {b : Nat} (h : isNum k b = false) : can k b = none := by simp [can, h]
theorem can_some {k : FloatKind} {b r : Nat} (h : can k b = some r) : r = b ∧ isNum k b = true := by
  unfold can at h
  split at h
  · rename_i hn; exact ⟨(Option.some.inj h).symm, hn⟩
  · cases h

theorem can_nanOf (k : FloatKind) (x y : Nat) (w : World) : can k (nanOf k x y w) = none := can_nan (isNum_nanOf k x y w)

theorem word_mod (f : Ieee.Format) (neg : Bool) (r : Nat) (h : r < f.signWeight) : f.word neg r % f.signWeight = r := by
  unfold Ieee.Format.word
  split
  · rw [Nat.add_mod_left, Nat.mod_eq_of_lt h]
  · exact Nat.mod_eq_of_lt h

theorem nearest_mod (f : Ieee.Format) (neg : Bool) (m : Nat) (p : Int) : f.nearest neg m p % f.signWeight ≤ f.infRung := by
  have hI := f.infRung_lt
  unfold Ieee.Format.nearest
  dsimp only
  split
  · rw [word_mod _ _ _ (by omega)]; omega
  · rw [word_mod _ _ _ (by omega)]; omega

theorem write_num (k : FloatKind) (d : Ieee.Datum) (h : d.isNaN = false) : isNum k (k.format.write d) = true := by
  rw [isNum_iff]
  cases d with
  | number s m p => exact nearest_mod _ _ _ _
  | infinity s => exact Nat.le_of_eq (word_mod _ _ _ k.format.infRung_lt)
  | nan s t => simp [Ieee.Datum.isNaN] at h

theorem floatBits_num {op : BinOp} {k : FloatKind} {x y r : Nat} (h : floatBits op k x y = some r) : isNum k r = true := by
  have key : ∀ (o : Option Ieee.Datum) , (∀ d, o = some d → d.isNaN = false) → o.map k.format.write = some r → isNum k r = true := by
    intro o ho hr
    cases o with
    | none => cases hr
    | some d => cases hr; exact write_num k d (ho d rfl)
  unfold floatBits at h
  split at h
  · refine key _ ?_ h
    intro d hd; unfold Ieee.Datum.sum at hd; split at hd <;> (try split at hd) <;> cases hd <;> rfl
  · refine key _ ?_ h
    intro d hd; unfold Ieee.Datum.sum at hd; split at hd <;> (try split at hd) <;> cases hd <;> rfl
  · refine key _ ?_ h
    intro d hd; unfold Ieee.Datum.product at hd; split at hd <;> (try split at hd) <;> cases hd <;> rfl
  · refine key _ ?_ h
    intro d hd; unfold Ieee.Datum.quotient at hd; split at hd <;> (try split at hd) <;> (try split at hd) <;> cases hd <;> rfl
  · cases h

theorem floatBits_nan {op : BinOp} {k : FloatKind} {x y : Nat} (h : isNum k x = false ∨ isNum k y = false) : floatBits op k x y = none := by
  have hx : ∀ z, isNum k z = false → ∃ s f, k.format.read z = .nan s f := by
    intro z hz
    unfold isNum at hz
    cases hr : k.format.read z <;> simp [hr, Ieee.Datum.isNaN] at hz
    exact ⟨_, _, rfl⟩
  unfold floatBits
  rcases h with h | h <;> obtain ⟨s, f, hr⟩ := hx _ h <;> split <;>
    simp [Ieee.Format.add, Ieee.Format.sub, Ieee.Format.mul, Ieee.Format.div, hr, Ieee.Datum.sum, Ieee.Datum.product, Ieee.Datum.quotient, Ieee.Datum.opposite]
  all_goals (cases k.format.read x <;> simp [Ieee.Datum.sum, Ieee.Datum.product, Ieee.Datum.quotient, Ieee.Datum.opposite])

/-- An operation on floats up to NaN. -/
def opC (op : BinOp) (k : FloatKind) (x y : Option Nat) : Option Nat := x.bind fun a => y.bind fun b => floatBits op k a b

/-- Arithmetic on floats, a NaN drawn or not, in one form: the bits and how many draws. -/
def fop (op : BinOp) (k : FloatKind) (x y : Nat) (w : World) : Nat := (floatBits op k x y).getD (nanOf k x y w)
def fdr (op : BinOp) (k : FloatKind) (x y : Nat) : Nat := if (floatBits op k x y).isSome then 0 else 1

theorem run_fop {P : Program} (op : BinOp) (t : TypeId) (k : FloatKind) (x y : Nat) (w : World) (ho : op = .add ∨ op = .sub ∨ op = .mul ∨ op = .quo) :
    (binOp op t (.float k x) (.float k y)).run P w = .ok (.float k (fop op k x y w)) (w.drewN (fdr op k x y)) := by
  cases h : floatBits op k x y with
  | none => rw [run_float_nan op t k x y w ho h]; simp [fop, fdr, h]; rfl
  | some r => rw [run_float_arith w op t k x y r h]; simp [fop, fdr, h]; rfl

@[go_sem] theorem run_fadd {P : Program} (t : TypeId) (k : FloatKind) (x y : Nat) (w : World) :
    (binOp .add t (.float k x) (.float k y)).run P w = .ok (.float k (fop .add k x y w)) (w.drewN (fdr .add k x y)) := run_fop .add t k x y w (by simp)
@[go_sem] theorem run_fsub {P : Program} (t : TypeId) (k : FloatKind) (x y : Nat) (w : World) :
    (binOp .sub t (.float k x) (.float k y)).run P w = .ok (.float k (fop .sub k x y w)) (w.drewN (fdr .sub k x y)) := run_fop .sub t k x y w (by simp)
@[go_sem] theorem run_fmul {P : Program} (t : TypeId) (k : FloatKind) (x y : Nat) (w : World) :
    (binOp .mul t (.float k x) (.float k y)).run P w = .ok (.float k (fop .mul k x y w)) (w.drewN (fdr .mul k x y)) := run_fop .mul t k x y w (by simp)
@[go_sem] theorem run_fquo {P : Program} (t : TypeId) (k : FloatKind) (x y : Nat) (w : World) :
    (binOp .quo t (.float k x) (.float k y)).run P w = .ok (.float k (fop .quo k x y w)) (w.drewN (fdr .quo k x y)) := run_fop .quo t k x y w (by simp)

theorem can_fop (op : BinOp) (k : FloatKind) (x y : Nat) (w : World) : can k (fop op k x y w) = opC op k (can k x) (can k y) := by
  unfold fop opC
  by_cases hx : isNum k x = true
  · by_cases hy : isNum k y = true
    · rw [can_num hx, can_num hy]
      simp only [Option.bind_some]
      cases h : floatBits op k x y with
      | none => exact can_nanOf _ _ _ _
      | some r => exact can_num (floatBits_num h)
    · have hy' : isNum k y = false := by simpa using hy
      rw [floatBits_nan (Or.inr hy'), can_nan hy']
      cases can k x <;> exact can_nanOf _ _ _ _
  · have hx' : isNum k x = false := by simpa using hx
    rw [floatBits_nan (Or.inl hx'), can_nan hx']
    exact can_nanOf _ _ _ _

theorem order_can (k : FloatKind) (a b : Nat) : k.format.order a b = (can k a).bind fun x => (can k b).bind fun y => some (compare (key k.format x) (key k.format y)) := by
  by_cases ha : isNum k a = true
  · by_cases hb : isNum k b = true
    · rw [can_num ha, can_num hb, order_key k a b ha hb]; rfl
    · have hb' : isNum k b = false := by simpa using hb
      rw [order_nan k a b (Or.inr hb'), can_nan hb']; cases can k a <;> rfl
  · have ha' : isNum k a = false := by simpa using ha
    rw [order_nan k a b (Or.inl ha'), can_nan ha']; rfl

/-- IsFinite. -/
def finB (k : FloatKind) (b : Nat) : Bool := decide (b % k.format.signWeight < k.format.infRung)

theorem sub_self (k : FloatKind) (b : Nat) : k.format.sub b b = if finB k b then some 0 else none := by
  have hz : k.format.write (.number false 0 0) = 0 := by cases k <;> rfl
  unfold finB
  by_cases hn : isNum k b = true
  · unfold Ieee.Format.sub
    rcases read_num k b hn with ⟨h1, m, e, hr, _⟩ | ⟨h1, hr⟩
    · rw [hr]
      simp only [Ieee.Datum.opposite, Ieee.Datum.sum, h1, decide_true, if_true, Option.map_some]
      generalize (b / k.format.signWeight % 2 == 1) = s
      have e0 : (k.format.leastPlace + (e : Int) - min (k.format.leastPlace + (e : Int)) (k.format.leastPlace + (e : Int))).toNat = 0 := by omega
      rw [e0]
      have e1 : Ieee.signed s m 0 + Ieee.signed (!s) m 0 = 0 := by
        unfold Ieee.signed; cases s <;> simp <;> omega
      rw [e1]
      have : k.format.write (.number (s && !s) 0 (min (k.format.leastPlace + (e : Int)) (k.format.leastPlace + (e : Int)))) = 0 := by
        cases s <;> (show k.format.nearest false 0 _ = 0) <;> (unfold Ieee.Format.nearest; simp [Ieee.Format.word])
      simpa using this
    · rw [hr]
      simp [Ieee.Datum.opposite, Ieee.Datum.sum, h1]
  · have hn' : isNum k b = false := by simpa using hn
    have h1 : ¬ b % k.format.signWeight < k.format.infRung := by
      intro h
      exact hn ((isNum_iff k b).2 (by omega))
    have := floatBits_nan (op := .sub) (k := k) (x := b) (y := b) (Or.inl hn')
    simp only [floatBits] at this
    simp [h1, this]

theorem order_zero (k : FloatKind) : k.format.order 0 0 = some .eq := by cases k <;> decide

theorem fop_finB (k : FloatKind) (b : Nat) (w : World) : (k.format.order (fop .sub k b b w) 0 == some .eq) = finB k b := by
  unfold fop floatBits
  simp only [sub_self]
  by_cases h : finB k b = true
  · rw [if_pos h, h, Option.getD_some, order_zero]; rfl
  · have h' : finB k b = false := by simpa using h
    rw [h', if_neg (by simp), Option.getD_none, order_nan k _ _ (Or.inl (isNum_nanOf _ _ _ _))]; rfl

/-! Conversions. -/
def fcv (s k : FloatKind) (b : Nat) (w : World) : Nat :=
  if s = k then b else match s.decode b with
  | .nan _ _ => (Question.nanConv k b).cut (w.tape w.drawn (.nanConv k b))
  | .infinity g => k.encode (.infinity g)
  | .number g m e => if (k.decode (k.encode (.number g m e))).isInfinity then (Question.floatToFloat b).cut (w.tape w.drawn (.floatToFloat b)) else k.encode (.number g m e)
def fcd (s k : FloatKind) (b : Nat) : Nat :=
  if s = k then 0 else match s.decode b with
  | .nan _ _ => 1
  | .infinity _ => 0
  | .number g m e => if (k.decode (k.encode (.number g m e))).isInfinity then 1 else 0

@[go_sem] theorem run_fcv {P : Program} (src dst : TypeId) (s k : FloatKind) (b : Nat) (w : World) (hs : (P.underlying src).isSome = true) (hd : P.underlying dst = some (.float k)) :
    (convert src dst (.float s b)).run P w = .ok (.float k (fcv s k b w)) (w.drewN (fcd s k b)) := by
  obtain ⟨u, hs'⟩ := Option.isSome_iff_exists.1 hs
  unfold fcv fcd
  by_cases e : s = k
  · subst e
    cases u <;> simp [convert, run_underlying hs', run_underlying hd, Conv.floatToFloat] <;> rfl
  · cases hr : s.decode b with
    | nan g t => cases u <;> simp [convert, run_underlying hs', run_underlying hd, Conv.floatToFloat, e, hr, choose, Question.forced] <;> rfl
    | infinity g => cases u <;> simp [convert, run_underlying hs', run_underlying hd, Conv.floatToFloat, e, hr] <;> rfl
    | number g m x =>
      by_cases ho : (k.decode (k.encode (.number g m x))).isInfinity = true
      · cases u <;> simp [convert, run_underlying hs', run_underlying hd, Conv.floatToFloat, e, hr, ho, choose, Question.forced] <;> rfl
      · cases u <;> simp [convert, run_underlying hs', run_underlying hd, Conv.floatToFloat, e, hr, ho] <;> rfl

@[go_sem] theorem ext_Float32bits (b : Nat) (w : World) : (callFunc 250 #[.float .f32 b]).run Try.prog w = .ok (.value (.int .u32 b)) w := by
  rw [run_callFunc_extern (e := Extern.MathFloatBits.float32bits) Try.func250 (by kernel_rfl) (by kernel_rfl) (by kernel_rfl) (by kernel_rfl)]; rfl
@[go_sem] theorem ext_Float64bits (b : Nat) (w : World) : (callFunc 271 #[.float .f64 b]).run Try.prog w = .ok (.value (.int .u64 b)) w := by
  rw [run_callFunc_extern (e := Extern.MathFloatBits.float64bits) Try.func271 (by kernel_rfl) (by kernel_rfl) (by kernel_rfl) (by kernel_rfl)]; rfl
@[go_sem] theorem ext_Float64frombits (n : Int) (w : World) : (callFunc 270 #[.int .u64 n]).run Try.prog w = .ok (.value (.float .f64 n.toNat)) w := by
  rw [run_callFunc_extern (e := Extern.MathFloatBits.float64frombits) Try.func270 (by kernel_rfl) (by kernel_rfl) (by kernel_rfl) (by kernel_rfl)]; rfl

@[go_sem] theorem run_store_float (P : Program) (w : World) (a : Addr) (k : FloatKind) (b : Nat) (m : Mode) : (store a (.float k b) m).run P w = stored P w a (.float k b) m := run_store P w a _ m rfl

theorem below_drewN' {B : Nat} {a w : World} {n : Nat} (h : Below B a w) : Below B a (w.drewN n) := ⟨h.os, h.tape, h.output, h.size, h.block⟩

theorem below_next {a b c : World} (h : Below a.heap.size a b) (k : Below b.heap.size b c) : Below a.heap.size a c := h.trans (k.mono h.size)
theorem below_alloc' {a b : World} (h : Below a.heap.size a b) (o : Obj) : Below a.heap.size a (b.alloc o) := h.alloc h.size o

theorem wp_world {P : Program} {c : Code} {Q : Exit → Act → World → Prop} {a : Act} {w : World} (h : ∀ W, W = w → c.wp P Q a W) : c.wp P Q a w := h w rfl

theorem enter_of {P : Program} {fid : FuncId} {fn : Func} {c : Code} (hf : P.funcs[fid]? = some fn) (hn : (fn.name == "runtime.NumGoroutine") = false) (hb : fn.body = some c) :
    ∀ args w, (callFunc fid args).run P w = .ok (.enter fid args) w := by
  intro args w
  have h1 : fn.name ≠ "runtime.NumGoroutine" := by simpa using hn
  simp [callFunc, hf, h1, hb, Sem.run]

theorem bwy {w W w' : World} (e : Hid (W = w)) (h : Below W.heap.size W w') : Below w.heap.size w w' := by
  have e' := e.out; subst e'; exact h

theorem drw_step {w w' : World} (h : ∃ m, w' = w.drewN m) (n : Nat) : ∃ m, w'.drewN n = w.drewN m := by
  obtain ⟨m, rfl⟩ := h; exact ⟨m + n, World.drewN_drewN _ _ _⟩
theorem drw_cell {w w' : World} (h : ∃ m, w' = w.drewN m) (a : Addr) : w'.cell? a = w.cell? a := by obtain ⟨m, rfl⟩ := h; rfl
theorem drw_trans {w w' w'' : World} (h : ∃ m, w' = w.drewN m) (k : ∃ m, w'' = w'.drewN m) : ∃ m, w'' = w.drewN m := by
  obtain ⟨m, rfl⟩ := h; obtain ⟨n, rfl⟩ := k; exact ⟨m + n, World.drewN_drewN _ _ _⟩
theorem drw_eq {w W w' : World} (e : W = w) (h : ∃ m, w' = W.drewN m) : ∃ m, w' = w.drewN m := by subst e; exact h

theorem bcell {B : Nat} {W w1 : World} (hb : Below B W w1) : (∀ b o, b < B → w1.cell? ⟨b, o, none⟩ = W.cell? ⟨b, o, none⟩) ∧ (∀ b o, b < B → w1.frozen? ⟨b, o, none⟩ = W.frozen? ⟨b, o, none⟩) :=
  ⟨fun b o h => hb.cell (p := ⟨b, o, none⟩) h, fun b o h => hb.frozen (p := ⟨b, o, none⟩) h⟩

theorem IsFinite_any (b : Nat) (w : World) : Calls Try.prog 80 #[.float .f32 b] w fun e w' => e = .returned (.bool (finB .f32 b)) ∧ ∃ n, w' = w.drewN n := by
  have H := fop_finB .f32 b
  go_enter Try.func80, Try.ntmps80
  go_wp2
  go_ret
  exact ⟨rfl, _, rfl⟩

theorem l01Finite_any (b : Nat) (w : World) : Calls Try.prog 77 #[.float .f32 b] w fun e w' => e = .returned (.bool (finB .f32 b)) ∧ ∃ n, w' = w.drewN n := by
  have H := fop_finB .f32 b
  go_enter Try.func77, Try.ntmps77
  go_wp2
  go_ret
  exact ⟨rfl, _, rfl⟩
end Go.Proofs.Ytfofkebkcjkjeaa
