/- The abstract machine: what an operation gives. -/
import Derived.Test.YtfofkebkcjkjeaaAa
namespace Go.Proofs.Ytfofkebkcjkjeaa
open Go.RowKit
set_option linter.unusedSimpArgs false
set_option linter.unusedVariables false

/-! Types, us far us operations ask for them. -/
inductive TD where
  | bool | int (k : IntKind) | flt (k : FloatKind) | slice (e : TypeId) | arr (n : Nat) (e : TypeId) | struct (fs : List (Nat × TypeId)) | ptr (e : TypeId) | other

structure TE where
  td : TD
  sz : Nat
  by_ : Nat
  zs : List LV

abbrev Tab := TypeId → Option TE

def TD.Ok : TD → TypeDesc → Prop
  | .bool, d => d = .bool
  | .int k, d => d = .int k
  | .flt k, d => d = .float k
  | .slice e, d => d = .slice e
  | .arr n e, d => d = .array n e
  | .struct fs, d => ∃ f, d = .struct f ∧ f.toList.map (fun f => (f.offset, f.type)) = fs
  | .ptr e, d => d = .pointer e
  | .other, d => (∀ f, d ≠ .struct f) ∧ (∀ n e, d ≠ .array n e)

def TD.agg : TD → Bool
  | .arr .. | .struct _ => true
  | _ => false

def TabOk (P : Program) (T : Tab) : Prop := ∀ t e, T t = some e → ∃ d i z, P.underlying t = some d ∧ e.td.Ok d ∧ P.info? t = some i ∧ i.size = e.sz ∧ i.bytes = e.by_ ∧
  i.zero = some z ∧ e.zs.length = e.sz ∧ (∀ μ H, All2 (BR μ H) e.zs z.cells.toList) ∧ ∀ v ∈ z.cells.toList, v.oneCell' = true

/-! Constants, operands. -/
def constB : Value → LV
  | .bool b => .bool b
  | .int k n => .int k n
  | .float k b => .flt k (can k b)
  | .slice none 0 0 => .nils
  | _ => .junk
def constL : Value → LV
  | .agg cs => .agg (cs.toList.map constB)
  | v => constB v
def ev (tm : List LV) : Operand → LV
  | .tmp t => tm.getD t .junk
  | .const v => constL v
  | .func f => .fn f []
  | .global _ => .junk

theorem BR_constB (μ : Nat → Pl) (H : Hp) (v : Value) : BR μ H (constB v) v := by
  unfold constB
  split <;> first | rfl | trivial | exact ⟨_, rfl, rfl⟩ | exact ⟨_, rfl⟩

theorem All2.map_left {α β γ : Type} {R : α → β → Prop} (f : γ → α) : ∀ {cs : List γ} {bs : List β}, All2 (fun c b => R (f c) b) cs bs → All2 R (cs.map f) bs
  | [], [], _ => trivial
  | _ :: _, _ :: _, h => ⟨h.1, All2.map_left f h.2⟩
  | [], _ :: _, h => h.elim
  | _ :: _, [], h => h.elim

theorem All2.diag {α : Type} {R : α → α → Prop} (h : ∀ a, R a a) : ∀ (us : List α), All2 R us us
  | [] => trivial
  | a :: us => ⟨h a, All2.diag h us⟩

theorem TR_constL (μ : Nat → Pl) (H : Hp) (v : Value) : TR μ H (constL v) v := by
  unfold constL
  split
  · rename_i cs
    exact ⟨cs, rfl, All2.map_left constB (All2.diag (R := fun c b => BR μ H (constB c) b) (fun a => BR_constB μ H a) cs.toList)⟩
  · exact TR.of_BR (BR_constB μ H v)

theorem TR_ev {μ : Nat → Pl} {H : Hp} {tm : List LV} {a : Act} (h : All2 (TR μ H) tm a.tmps.toList) (x : Operand) : TR μ H (ev tm x) (a.eval x) := by
  cases x with
  | tmp t =>
    simp only [ev, Act.eval]
    by_cases ht : t < tm.length
    · obtain ⟨v, h1, h2⟩ := h.get t tm[t] (by simp [ht])
      have e1 : tm.getD t .junk = tm[t] := by simp [ht]
      have e2 : a.tmps.getD t undef = v := by
        rw [Array.getElem?_toList] at h1
        simp [h1]
      rw [e1, e2]; exact h2
    · have e1 : tm.getD t .junk = .junk := by simp [List.getElem?_eq_none (Nat.le_of_not_lt ht)]
      rw [e1]; trivial
  | const v => exact TR_constL μ H v
  | global g => trivial
  | func f => exact ⟨#[], rfl, trivial⟩

/-! The heap read and written. -/
def hget (H : Hp) (id ver off : Nat) : Option LV := match H[id]? with
  | some o => if o.ver = ver then o.cs[off]? else none
  | none => none
def hgets (H : Hp) (id ver off n : Nat) : Option (List LV) := match H[id]? with
  | some o => if o.ver = ver ∧ off + n ≤ o.cs.length then some ((o.cs.drop off).take n) else none
  | none => none
def sets (cs : List LV) (off : Nat) : List LV → List LV
  | [] => cs
  | x :: xs => sets (cs.set off x) (off + 1) xs
def hput (H : Hp) (id ver off : Nat) (xs : List LV) : Option Hp := match H[id]? with
  | some o => if o.ver = ver ∧ o.ro = false ∧ off + xs.length ≤ o.cs.length then some (H.set id { o with cs := sets o.cs off xs }) else none
  | none => none
def liveO (H : Hp) (id ver : Nat) : Bool := match H[id]? with
  | some o => o.ver == ver
  | none => false
def hgetP (H : Hp) : LV → Option LV
  | .ptr id ver off => hget H id ver off
  | _ => none
def hgetsP (H : Hp) (n : Nat) : LV → Option (List LV)
  | .ptr id ver off => hgets H id ver off n
  | _ => none
def hputP (H : Hp) (xs : List LV) : LV → Option Hp
  | .ptr id ver off => hput H id ver off xs
  | _ => none
/-- The place of an element of a slice. -/
def ptrOf : LV → Nat → LV
  | .sl id ver off _ _, k => .ptr id ver (off + k)
  | _, _ => .junk
def idxP (H : Hp) (sz : Nat) (i : Int) : LV → Option LV
  | .sl id ver off n _ => if 0 ≤ i ∧ i < n ∧ liveO H id ver = true then some (.ptr id ver (off + i.toNat * sz)) else none
  | _ => none
def arrP (H : Hp) (sz n : Nat) (i : Int) : LV → Option LV
  | .ptr id ver off => if 0 ≤ i ∧ i < n ∧ liveO H id ver = true then some (.ptr id ver (off + i.toNat * sz)) else none
  | _ => none
def fldP (H : Hp) (fo : Nat) : LV → Option LV
  | .ptr id ver off => if liveO H id ver = true then some (.ptr id ver (off + fo)) else none
  | _ => none
def LV.isCell : LV → Bool
  | .bool _ | .int .. | .flt .. | .ptr .. | .nils | .emp | .sl .. => true
  | _ => false
def cellsL : LV → List LV
  | .agg cs => cs
  | x => [x]
def partL (T : Tab) (t : TypeId) (cs : List LV) (off : Nat) : Option LV := match T t with
  | some e => if e.td.agg then (if off + e.sz ≤ cs.length then some (.agg ((cs.drop off).take e.sz)) else none) else cs[off]?
  | none => none

/-! Arithmetic. -/
def ordC (k : FloatKind) (a b : Option Nat) : Option Ordering := a.bind fun x => b.bind fun y => some (compare (key k.format x) (key k.format y))
def fEq (k : FloatKind) (a b : Option Nat) : Bool := ordC k a b == some .eq
def fLt (k : FloatKind) (a b : Option Nat) : Bool := ordC k a b == some .lt
def fLe (k : FloatKind) (a b : Option Nat) : Bool := ordC k a b == some .lt || ordC k a b == some .eq
def fGt (k : FloatKind) (a b : Option Nat) : Bool := ordC k a b == some .gt
def fGe (k : FloatKind) (a b : Option Nat) : Bool := ordC k a b == some .gt || ordC k a b == some .eq
def ibits (op : BinOp) (k : IntKind) (x y : Int) : Int :=
  k.wrap (match op with
    | .and => BitVec.ofInt k.bits x &&& BitVec.ofInt k.bits y
    | .or => BitVec.ofInt k.bits x ||| BitVec.ofInt k.bits y
    | .xor => BitVec.ofInt k.bits x ^^^ BitVec.ofInt k.bits y
    | _ => BitVec.ofInt k.bits x &&& ~~~ BitVec.ofInt k.bits y).toNat
def aint (op : BinOp) (k : IntKind) (a b : Int) : Option LV := match op with
  | .add => some (.int k (k.wrap (a + b)))
  | .sub => some (.int k (k.wrap (a - b)))
  | .mul => some (.int k (k.wrap (a * b)))
  | .quo => if b = 0 then none else some (.int k (k.wrap (a.tdiv b)))
  | .rem => if b = 0 then none else some (.int k (a.tmod b))
  | .and => some (.int k (ibits .and k a b))
  | .or => some (.int k (ibits .or k a b))
  | .xor => some (.int k (ibits .xor k a b))
  | .andNot => some (.int k (ibits .andNot k a b))
  | .eql => some (.bool (a == b))
  | .neq => some (.bool (a != b))
  | .lss => some (.bool (decide (a < b)))
  | .leq => some (.bool (decide (a ≤ b)))
  | .gtr => some (.bool (decide (b < a)))
  | .geq => some (.bool (decide (b ≤ a)))
  | _ => none
def aflt (op : BinOp) (k : FloatKind) (a b : Option Nat) : Option LV := match op with
  | .add => some (.flt k (opC .add k a b))
  | .sub => some (.flt k (opC .sub k a b))
  | .mul => some (.flt k (opC .mul k a b))
  | .quo => some (.flt k (opC .quo k a b))
  | .eql => some (.bool (fEq k a b))
  | .neq => some (.bool (!fEq k a b))
  | .lss => some (.bool (fLt k a b))
  | .leq => some (.bool (fLe k a b))
  | .gtr => some (.bool (fGt k a b))
  | .geq => some (.bool (fGe k a b))
  | _ => none
def abin (T : Tab) (op : BinOp) (t : TypeId) : LV → LV → Option LV
  | .int k a, .int k' b => match op with
    | .shl => if 0 ≤ b then some (.int k (k.wrap (a * 2 ^ min b.toNat k.bits))) else none
    | .shr => if 0 ≤ b then some (.int k (a.fdiv (2 ^ min b.toNat k.bits))) else none
    | op => if k = k' then aint op k a b else none
  | .flt k a, .flt k' b => if k = k' then aflt op k a b else none
  | .bool a, .bool b => match T t with
    | some { td := .bool, .. } => match op with
      | .eql => some (.bool (a == b))
      | .neq => some (.bool (!(a == b)))
      | _ => none
    | _ => none
  | _, _ => none
def negC (k : FloatKind) (o : Option Nat) : Option Nat := o.map (Op.negFloat k)
def aun (op : UnOp) : LV → Option LV
  | .int k n => match op with
    | .neg => some (.int k (k.wrap (0 - n)))
    | _ => none
  | .flt k o => match op with
    | .neg => some (.flt k (negC k o))
    | _ => none
  | .bool b => match op with
    | .not => some (.bool !b)
    | _ => none
  | _ => none
def cvC (s k : FloatKind) (o : Option Nat) : Option (Option Nat) :=
  if s = k then some o else match o with
  | none => some none
  | some b => match s.decode b with
    | .infinity g => some (some (k.encode (.infinity g)))
    | .number g m e => if (k.decode (k.encode (.number g m e))).isInfinity then none else some (some (k.encode (.number g m e)))
    | .nan .. => some none
def aconv (T : Tab) (src dst : TypeId) (x : LV) : Option LV := match T src, T dst with
  | some _, some { td := .int k, .. } => match x with
    | .int _ n => some (.int k (k.wrap n))
    | .flt s (some b) => match (s.decode b).toInt .zero with
      | some n => if k.min ≤ n ∧ n ≤ k.max then some (.int k n) else none
      | none => none
    | _ => none
  | some _, some { td := .flt k, .. } => match x with
    | .int _ n => some (.flt k (some (k.nearest n)))
    | .flt s o => (cvC s k o).map (LV.flt k)
    | _ => none
  | _, _ => none

/-! Slices. -/
def aidx : LV → Option Int
  | .int _ i => some i
  | _ => none
def asliceB (n : Nat) (x : Option LV) (d : Nat) : Option Nat := match x with
  | none => some d
  | some (.int _ i) => if 0 ≤ i ∧ i ≤ n then some i.toNat else none
  | some _ => none
/-- How far a slice may be cut: its length, or what is known behind it. -/
def roomOf (o : AO) (off n : Nat) (cap : Option Nat) : Nat := match cap with
  | some k => k
  | none => if o.ro = false ∧ off + n * o.sz ≤ o.cs.length ∧ 0 < o.sz then max n ((o.cs.length - off) / o.sz) else n
def asliceS (te : TE) (H : Hp) (x : LV) (lo hi mx : Option LV) : Option LV := match x with
  | .sl id ver off n cap => match H[id]? with
    | none => none
    | some o => if o.ver ≠ ver then none else if o.sz ≠ te.sz then none else
      match asliceB (roomOf o off n cap) mx (roomOf o off n cap) with
      | none => none
      | some m => match asliceB m hi n with
        | none => none
        | some h => match asliceB h lo 0 with
          | none => none
          | some l => if mx.isSome && hi.isNone then none else some (.sl id ver (off + l * te.sz) (h - l) (if mx.isSome then some (m - l) else cap.map (· - l)))
  | .nils => match asliceB 0 mx 0, asliceB 0 hi 0, asliceB 0 lo 0 with
    | some _, some _, some _ => if mx.isSome && hi.isNone then none else some .nils
    | _, _, _ => none
  | .emp => match asliceB 0 mx 0, asliceB 0 hi 0, asliceB 0 lo 0 with
    | some _, some _, some _ => if mx.isSome && hi.isNone then none else some (if mx.isSome then .nils else .emp)
    | _, _, _ => none
  | _ => none
def aslice (T : Tab) (H : Hp) (t : TypeId) (x : LV) (lo hi mx : Option LV) : Option LV := match T t with
  | some { td := .slice e, .. } => match T e with
    | some te => asliceS te H x lo hi mx
    | none => none
  | _ => none
/-- The cells that a slice's elements take. -/
def cellsOf (H : Hp) (sz : Nat) : LV → Option (List LV)
  | .nils | .emp => some []
  | .sl id ver off n _ => hgets H id ver off (n * sz)
  | _ => none
def lenOf : LV → Option Nat
  | .nils | .emp => some 0
  | .sl _ _ _ n _ => some n
  | _ => none
def aappO (te : TE) (e : TypeId) (H : Hp) (id ver off n : Nat) (cap : Option Nat) (m : Nat) (news : List LV) : Option AO → Option (LV × Hp)
  | none => none
  | some o =>
    if o.ver ≠ ver then none else if o.sz ≠ te.sz then none else if o.el ≠ e then none else
    match cap with
    | none =>
      if o.ro then none else
      if off + (n + m) * te.sz ≤ o.cs.length then some (.sl id ver off (n + m) none, H.set id { o with cs := sets o.cs (off + n * te.sz) news })
      else if off = 0 ∧ o.cs.length = n * te.sz ∧ o.cs.all LV.isCell ∧ (n + m) * te.by_ ≤ 140737488355328 ∧ n + m ≤ 17592186044416 then some (.sl id (ver + 1) 0 (n + m) none, H.set id { o with ver := ver + 1, cs := o.cs ++ news })
      else none
    | some k =>
      if n + m ≤ k then none
      else match hgets H id ver off (n * te.sz) with
        | some olds => if olds.all LV.isCell ∧ (n + m) * te.by_ ≤ 140737488355328 ∧ n + m ≤ 17592186044416 then some (.sl H.length 0 0 (n + m) none, H ++ [⟨0, false, e, te.sz, olds ++ news⟩]) else none
        | none => none
def aapp (te : TE) (e : TypeId) (H : Hp) (x : LV) (m : Nat) (news : List LV) : Option (LV × Hp) :=
  if te.sz = 0 then none else if !news.all LV.isCell then none else
  match x with
  | .nils => if m = 0 then some (.nils, H) else if m * te.by_ ≤ 140737488355328 ∧ m ≤ 17592186044416 then some (.sl H.length 0 0 m none, H ++ [⟨0, false, e, te.sz, news⟩]) else none
  | .sl id ver off n cap => aappO te e H id ver off n cap m news H[id]?
  | _ => none
def aappend (T : Tab) (H : Hp) (t : TypeId) (x y : LV) : Option (LV × Hp) := match T t with
  | some te0 => match te0.td with
    | .slice e => match T e with
      | some te => match lenOf y, cellsOf H te.sz y with
        | some m, some news => aapp te e H x m news
        | _, _ => none
      | none => none
    | _ => none
  | none => none
def acopy (T : Tab) (H : Hp) (t : TypeId) (x y : LV) : Option (LV × Hp) := match T t with
  | some { td := .slice e, .. } => match T e with
    | some te => match lenOf x, lenOf y, cellsOf H te.sz y with
      | some n, some m, some news =>
        if !(news.take (min m n * te.sz)).all LV.isCell then none else
        match x with
        | .sl id ver off _ _ => (hput H id ver off (news.take (min m n * te.sz))).map fun H' => (.int .i64 (min m n : Nat), H')
        | .nils => some (.int .i64 0, H)
        | _ => none
      | _, _, _ => none
    | none => none
  | _ => none
def zeros (zs : List LV) (n : Nat) : List LV := (List.replicate n zs).flatten
def aclear (T : Tab) (H : Hp) (t : TypeId) (x : LV) : Option (LV × Hp) := match T t with
  | some { td := .slice e, .. } => match T e with
    | some te => match x with
      | .nils | .emp => some (.tup [], H)
      | .sl id ver off n _ => if !te.zs.all LV.isCell then none else (hput H id ver off (zeros te.zs n)).map fun H' => (.tup [], H')
      | _ => none
    | none => none
  | _ => none
def aminmax (f : Int → Int → Int) : List LV → Option LV
  | [.int k a, .int k' b] => if k = k' then some (.int k (f a b)) else none
  | [.int k a, .int k' b, .int k'' c] => if k = k' ∧ k = k'' then some (.int k (f (f a b) c)) else none
  | _ => none
def abuiltin (T : Tab) (H : Hp) : Builtin → List TypeId → List LV → Option (LV × Hp)
  | .len, [t], [x] => match T t with
    | some { td := .slice _, .. } => (lenOf x).map fun (n : Nat) => (LV.int .i64 (n : Int), H)
    | some { td := .arr n _, .. } => some (.int .i64 n, H)
    | _ => none
  | .append, [t, t'], [x, y] => if t = t' then aappend T H t x y else none
  | .copy, [t, _], [x, y] => acopy T H t x y
  | .clear, [t], [x] => aclear T H t x
  | .max, _, xs => (aminmax (fun x y => if y > x then y else x) xs).map (·, H)
  | .min, _, xs => (aminmax (fun x y => if y < x then y else x) xs).map (·, H)
  | _, _, _ => none

def afill (place : Nat → Option (Nat × Nat)) (cells : List LV) : List (Nat × LV) → Option (List LV)
  | [] => some cells
  | (i, v) :: rest => match place i with
    | none => none
    | some (off, size) => if (cellsL v).length ≠ size ∨ cells.length < off + (cellsL v).length ∨ !((cellsL v).all LV.isCell) then none else afill place (sets cells off (cellsL v)) rest

def amake (te : TE) (e : TypeId) (H : Hp) (l c : Int) : Option (LV × Hp) :=
  if 0 ≤ l ∧ l ≤ c ∧ c ≤ 17592186044416 ∧ te.by_ * c ≤ 140737488355328 then some (.sl H.length 0 0 l.toNat none, H ++ [⟨0, false, e, te.sz, zeros te.zs c.toNat⟩]) else none

/-- What an operation that calls nothing gives. -/
def aop (T : Tab) (r : Operand → LV) (H : Hp) : Op → Option (LV × Hp)
  | .move x | .assign x => some (r x, H)
  | .pick c a b => match r c with
    | .bool t => some (if t then r a else r b, H)
    | _ => none
  | .nilCheck x => match r x with
    | .ptr id ver off => some (.ptr id ver off, H)
    | .fn f cs => some (.fn f cs, H)
    | _ => none
  | .binOp op t x y _ => (abin T op t (r x) (r y)).map (·, H)
  | .unOp op _ x => (aun op (r x)).map (·, H)
  | .convert s d x => (aconv T s d (r x)).map (·, H)
  | .extract t i => match r t with
    | .tup cs => cs[i]?.map (·, H)
    | _ => none
  | .fieldAddr s x f => match T s with
    | some e => match e.td with
      | .struct fs => match fs[f]? with
        | some p => match T p.2 with
          | some te => if te.sz = 0 then none else (fldP H p.1 (r x)).map (·, H)
          | none => none
        | none => none
      | _ => none
    | none => none
  | .field s x f => match T s, r x with
    | some { td := .struct fs, .. }, .agg cs => match fs[f]? with
      | some (fo, ft) => (partL T ft cs fo).map (·, H)
      | none => none
    | _, _ => none
  | .indexAddr t x i => match T t with
    | some e0 => match e0.td with
      | .slice e => match T e, aidx (r i) with
        | some te, some j => (idxP H te.sz j (r x)).map (·, H)
        | _, _ => none
      | .arr n e => match T e, aidx (r i) with
        | some te, some j => (arrP H te.sz n j (r x)).map (·, H)
        | _, _ => none
      | _ => none
    | none => none
  | .index t x i => match T t, r x, r i with
    | some { td := .arr n e, .. }, .agg cs, .int _ i => match T e with
      | some te => if 0 ≤ i ∧ i < n then (partL T e cs (i.toNat * te.sz)).map (·, H) else none
      | none => none
    | _, _, _ => none
  | .load t a => match T t with
    | some te => if te.td.agg then (hgetsP H te.sz (r a)).map fun cs => (LV.agg cs, H) else (hgetP H (r a)).map (·, H)
    | none => none
  | .store t a v => match T t with
    | some te => if (cellsL (r v)).length = te.sz ∧ (cellsL (r v)).all LV.isCell then (hputP H (cellsL (r v)) (r a)).map fun H' => (.junk, H') else none
    | none => none
  | .alloc t => match T t with
    | some te => some (.ptr H.length 0 0, H ++ [⟨0, false, t, te.sz, te.zs⟩])
    | none => none
  | .box t v => if (cellsL (r v)).all LV.isCell then some (.ptr H.length 0 0, H ++ [⟨0, false, t, (cellsL (r v)).length, cellsL (r v)⟩]) else none
  | .build t parts => match T t with
    | some te => match te.td with
      | .struct fs => if !(fs.all fun p => (T p.2).isSome) then none else (afill (fun i => (fs[i]?).bind fun p => (T p.2).map fun e => (p.1, e.sz)) te.zs (parts.toList.map fun p => (p.1, r p.2))).map fun cs => (.agg cs, H)
      | .arr _ e => match T e with
        | some ee => (afill (fun i => some (i * ee.sz, ee.sz)) te.zs (parts.toList.map fun p => (p.1, r p.2))).map fun cs => (.agg cs, H)
        | none => none
      | _ => none
    | none => none
  | .buildSlice t len parts => match T t with
    | some { td := .slice e, .. } => match T e with
      | some te => if len * te.sz ≤ 16777216 then (afill (fun i => some (i * te.sz, te.sz)) (List.replicate (len * te.sz) .junk) (parts.toList.map fun p => (p.1, r p.2))).map fun cs => (.sl H.length 0 0 len none, H ++ [⟨0, false, e, te.sz, cs⟩]) else none
      | none => none
    | _ => none
  | .makeSlice t l c => match T t, r l, r c with
    | some { td := .slice e, .. }, .int _ l, .int _ c => match T e with
      | some te => amake te e H l c
      | none => none
    | _, _, _ => none
  | .slice t x lo hi mx => (aslice T H t (r x) (lo.map r) (hi.map r) (mx.map r)).map (·, H)
  | .makeFunc fn first caps => match fn with
    | .func f => if first.size = 0 ∧ (caps.toList.map r).all LV.isCell then some (.fn f (caps.toList.map r), H) else none
    | _ => none
  | .call c => match c.callee with
    | .builtin b => abuiltin T H b c.argTypes.toList (c.args.toList.map r)
    | _ => none
  | _ => none
end Go.Proofs.Ytfofkebkcjkjeaa
