/- The abstract machine: values, the heap, what they say of the model's values and worlds. -/
import Derived.Test.YtfofkebkcjkjeaaFl
import Derived.Orders
import Derived.Laws.MakeOwn
import Derived.Laws.OwnMore
import Derived.ArgAppend
namespace Go.Proofs.Ytfofkebkcjkjeaa
open Go.RowKit
set_option linter.unusedSimpArgs false
set_option linter.unusedVariables false

inductive LV where
  | junk
  | bool (b : Bool)
  | int (k : IntKind) (n : Int)
  | flt (k : FloatKind) (o : Option Nat)
  | ptr (id ver off : Nat)
  | nils
  | emp
  | sl (id ver off n : Nat) (cap : Option Nat)
  | fn (f : FuncId) (caps : List LV)
  | agg (cs : List LV)
  | tup (cs : List LV)
  deriving Inhabited

structure AO where
  ver : Nat
  ro : Bool
  el : TypeId
  sz : Nat
  cs : List LV

structure Pl where
  b : Nat
  off : Nat
  size : Nat

abbrev Hp := List AO

def ad (p : Pl) (off : Nat) : Addr := ⟨p.b, p.off + off, none⟩

/-! Lists in step. -/
def All2 {α β : Type} (R : α → β → Prop) : List α → List β → Prop
  | [], [] => True
  | a :: us, b :: bs => R a b ∧ All2 R us bs
  | _, _ => False

theorem All2.len {α β : Type} {R : α → β → Prop} : ∀ {us : List α} {bs : List β}, All2 R us bs → us.length = bs.length
  | [], [], _ => rfl
  | _ :: _, _ :: _, h => by simp [All2.len h.2]
  | [], _ :: _, h => h.elim
  | _ :: _, [], h => h.elim

theorem All2.get {α β : Type} {R : α → β → Prop} : ∀ {us : List α} {bs : List β}, All2 R us bs → ∀ (i : Nat) (a : α), us[i]? = some a → ∃ b, bs[i]? = some b ∧ R a b
  | [], [], _, i, a, h => by simp at h
  | x :: us, y :: bs, h, 0, a, e => by simp at e; subst e; exact ⟨y, rfl, h.1⟩
  | x :: us, y :: bs, h, i + 1, a, e => by simpa using All2.get h.2 i a (by simpa using e)
  | [], _ :: _, h, _, _, _ => h.elim
  | _ :: _, [], h, _, _, _ => h.elim

theorem All2.of_get {α β : Type} {R : α → β → Prop} : ∀ {us : List α} {bs : List β}, us.length = bs.length → (∀ (i : Nat) (a : α) (b : β), us[i]? = some a → bs[i]? = some b → R a b) → All2 R us bs
  | [], [], _, _ => trivial
  | x :: us, y :: bs, hl, h => ⟨h 0 x y rfl rfl, All2.of_get (by simpa using hl) fun i a b ha hb => h (i + 1) a b (by simpa using ha) (by simpa using hb)⟩
  | [], _ :: _, hl, _ => by simp at hl
  | _ :: _, [], hl, _ => by simp at hl

theorem All2.mono {α β : Type} {R R' : α → β → Prop} (hm : ∀ a b, R a b → R' a b) : ∀ {us : List α} {bs : List β}, All2 R us bs → All2 R' us bs
  | [], [], _ => trivial
  | _ :: _, _ :: _, h => ⟨hm _ _ h.1, All2.mono hm h.2⟩
  | [], _ :: _, h => h.elim
  | _ :: _, [], h => h.elim

theorem All2.app {α β : Type} {R : α → β → Prop} : ∀ {us : List α} {bs : List β} {cs : List α} {ds : List β}, All2 R us bs → All2 R cs ds → All2 R (us ++ cs) (bs ++ ds)
  | [], [], _, _, _, h => h
  | _ :: _, _ :: _, _, _, h, k => ⟨h.1, All2.app h.2 k⟩
  | [], _ :: _, _, _, h, _ => h.elim
  | _ :: _, [], _, _, h, _ => h.elim

theorem All2.set {α β : Type} {R : α → β → Prop} : ∀ {us : List α} {bs : List β} (i : Nat) {a : α} {b : β}, All2 R us bs → R a b → All2 R (us.set i a) (bs.set i b)
  | [], [], _, _, _, _, _ => trivial
  | _ :: _, _ :: _, 0, _, _, h, k => ⟨k, h.2⟩
  | _ :: _, _ :: _, i + 1, _, _, h, k => ⟨h.1, All2.set i h.2 k⟩
  | [], _ :: _, _, _, _, h, _ => h.elim
  | _ :: _, [], _, _, _, h, _ => h.elim

/-! Values. -/
def BR (μ : Nat → Pl) (H : Hp) : LV → Value → Prop
  | .junk, _ => True
  | .bool b, v => v = .bool b
  | .int k n, v => v = .int k n
  | .flt k o, v => ∃ b, v = .float k b ∧ can k b = o
  | .ptr id ver off, v => ∃ o a, H[id]? = some o ∧ ver ≤ o.ver ∧ v = .pointer (some a) ∧ (ver = o.ver → a = ad (μ id) off)
  | .nils, v => ∃ a, v = .slice a 0 0
  | .emp, v => ∃ a c, v = .slice a 0 c
  | .sl id ver off n cap, v => ∃ (o : AO) (a : Option Addr) (c : Nat), H[id]? = some o ∧ ver ≤ o.ver ∧ v = .slice a n c ∧ (ver = o.ver → n ≤ c ∧ (0 < c → a = some (ad (μ id) off)) ∧ (∀ k, cap = some k → c = k) ∧ (o.ro = false → (cap = none → off + c * o.sz = (μ id).size) ∧ off + c * o.sz ≤ (μ id).size))
  | _, _ => False

def LR (μ : Nat → Pl) (H : Hp) : LV → Value → Prop
  | .agg cs, v => ∃ vs : Array Value, v = .agg vs ∧ All2 (BR μ H) cs vs.toList
  | .fn f caps, v => ∃ vs : Array Value, v = .func (.func f) #[] vs ∧ All2 (BR μ H) caps vs.toList
  | x, v => BR μ H x v

def TR (μ : Nat → Pl) (H : Hp) : LV → Value → Prop
  | .tup cs, v => ∃ vs : Array Value, v = .tuple vs ∧ All2 (LR μ H) cs vs.toList
  | x, v => LR μ H x v

/-- What a later state keeps of an earlier one. -/
def Ext (μ : Nat → Pl) (H : Hp) (μ' : Nat → Pl) (H' : Hp) : Prop :=
  ∀ (i : Nat) (o : AO), H[i]? = some o → ∃ o' : AO, H'[i]? = some o' ∧ o.ver ≤ o'.ver ∧ o'.ro = o.ro ∧ o'.sz = o.sz ∧ o'.el = o.el ∧ (o'.ver = o.ver → μ' i = μ i)

theorem Ext.refl (μ : Nat → Pl) (H : Hp) : Ext μ H μ H := fun i o h => ⟨o, h, Nat.le_refl _, rfl, rfl, rfl, fun _ => rfl⟩

theorem Ext.trans {μ μ' μ'' : Nat → Pl} {H H' H'' : Hp} (h : Ext μ H μ' H') (k : Ext μ' H' μ'' H'') : Ext μ H μ'' H'' := by
  intro i o hi
  obtain ⟨o', h1, h2, h3, h4, h5, h6⟩ := h i o hi
  obtain ⟨o'', k1, k2, k3, k4, k5, k6⟩ := k i o' h1
  refine ⟨o'', k1, Nat.le_trans h2 k2, k3.trans h3, k4.trans h4, k5.trans h5, fun e => ?_⟩
  rw [k6 (by omega), h6 (by omega)]

theorem BR.ext {μ μ' : Nat → Pl} {H H' : Hp} (hx : Ext μ H μ' H') {x : LV} {v : Value} (h : BR μ H x v) : BR μ' H' x v := by
  cases x with
  | ptr id ver off =>
    obtain ⟨o, a, h1, h2, hv, h3⟩ := h
    obtain ⟨o', k1, k2, k3, k4, k5, k6⟩ := hx id o h1
    exact ⟨o', a, k1, Nat.le_trans h2 k2, hv, fun e => by rw [h3 (by omega), k6 (by omega)]⟩
  | sl id ver off n cap =>
    obtain ⟨o, a, c, h1, h2, hv, h3⟩ := h
    obtain ⟨o', k1, k2, k3, k4, k5, k6⟩ := hx id o h1
    refine ⟨o', a, c, k1, Nat.le_trans h2 k2, hv, fun e => ?_⟩
    obtain ⟨g2, g3, g4, g5⟩ := h3 (by omega)
    have hm := k6 (by omega)
    exact ⟨g2, by rw [hm]; exact g3, g4, by rw [hm, k3, k4]; exact g5⟩
  | _ => exact h

theorem LR.ext {μ μ' : Nat → Pl} {H H' : Hp} (hx : Ext μ H μ' H') {x : LV} {v : Value} (h : LR μ H x v) : LR μ' H' x v := by
  cases x with
  | agg cs => obtain ⟨vs, h1, h2⟩ := h; exact ⟨vs, h1, h2.mono fun _ _ => BR.ext hx⟩
  | fn f cs => obtain ⟨vs, h1, h2⟩ := h; exact ⟨vs, h1, h2.mono fun _ _ => BR.ext hx⟩
  | tup cs => exact h
  | junk => exact trivial
  | bool b => exact BR.ext (x := .bool b) hx h
  | int k n => exact BR.ext (x := .int k n) hx h
  | flt k o => exact BR.ext (x := .flt k o) hx h
  | ptr a b c => exact BR.ext (x := .ptr a b c) hx h
  | nils => exact BR.ext (x := .nils) hx h
  | emp => exact BR.ext (x := .emp) hx h
  | sl a b c d e => exact BR.ext (x := .sl a b c d e) hx h

theorem TR.ext {μ μ' : Nat → Pl} {H H' : Hp} (hx : Ext μ H μ' H') {x : LV} {v : Value} (h : TR μ H x v) : TR μ' H' x v := by
  cases x with
  | tup cs => obtain ⟨vs, h1, h2⟩ := h; exact ⟨vs, h1, h2.mono fun _ _ => LR.ext hx⟩
  | junk => exact trivial
  | bool b => exact BR.ext (x := .bool b) hx h
  | int k n => exact BR.ext (x := .int k n) hx h
  | flt k o => exact BR.ext (x := .flt k o) hx h
  | ptr a b c => exact BR.ext (x := .ptr a b c) hx h
  | nils => exact BR.ext (x := .nils) hx h
  | emp => exact BR.ext (x := .emp) hx h
  | sl a b c d e => exact BR.ext (x := .sl a b c d e) hx h
  | agg cs => exact LR.ext (x := .agg cs) hx h
  | fn f cs => exact LR.ext (x := .fn f cs) hx h

theorem LR.of_BR {μ : Nat → Pl} {H : Hp} {x : LV} {v : Value} (h : BR μ H x v) : LR μ H x v := by
  cases x <;> first | exact h | exact h.elim

theorem TR.of_LR {μ : Nat → Pl} {H : Hp} {x : LV} {v : Value} (h : LR μ H x v) : TR μ H x v := by
  cases x <;> first | exact h | exact h.elim

theorem TR.of_BR {μ : Nat → Pl} {H : Hp} {x : LV} {v : Value} (h : BR μ H x v) : TR μ H x v := TR.of_LR (LR.of_BR h)

/-! The heap. -/
structure Rep (w0 : World) (μ : Nat → Pl) (H : Hp) (w : World) : Prop where
  bel : Below w0.heap.size w0 w
  cell : ∀ (i : Nat) (o : AO), H[i]? = some o → ∀ (j : Nat) (c : LV), o.cs[j]? = some c → ∃ v, w.cell? (ad (μ i) j) = some v ∧ v.oneCell' = true ∧ BR μ H c v
  ro : ∀ (i : Nat) (o : AO), H[i]? = some o → o.ro = true → (o.cs = [] ∨ (μ i).b < w0.heap.size)
  rw : ∀ (i : Nat) (o : AO), H[i]? = some o → o.ro = false → (μ i).off = 0 ∧ o.cs.length ≤ (μ i).size ∧ ((μ i).size = 0 ∨ (w0.heap.size ≤ (μ i).b ∧ ∃ cur : Array Value, w.heap[(μ i).b]? = some (.cells cur o.el (0, 0)) ∧ cur.size = (μ i).size))
  dj : ∀ (i j : Nat) (o p : AO), H[i]? = some o → H[j]? = some p → o.ro = false → p.ro = false → (μ i).size ≠ 0 → (μ j).size ≠ 0 → (μ i).b = (μ j).b → i = j

theorem Rep.drewN {w0 : World} {μ : Nat → Pl} {H : Hp} {w : World} (h : Rep w0 μ H w) (n : Nat) : Rep w0 μ H (w.drewN n) :=
  ⟨below_drewN' h.bel, h.cell, h.ro, h.rw, h.dj⟩

theorem cell_lt {w : World} {a : Addr} {v : Value} (h : w.cell? a = some v) : a.block < w.heap.size := World.block_lt_of_cell? w a h

theorem cell_row {w : World} {b : Nat} {cur : Array Value} {e : TypeId} {fz : Nat × Nat} (h : w.heap[b]? = some (.cells cur e fz)) (j : Nat) : w.cell? ⟨b, j, none⟩ = cur[j]? := by
  simp [World.cell?, h]

theorem Rep.real {w0 : World} {μ : Nat → Pl} {H : Hp} {w : World} (h : Rep w0 μ H w) {i : Nat} {o : AO} (hi : H[i]? = some o) (hr : o.ro = false) (hz : (μ i).size ≠ 0) :
    w0.heap.size ≤ (μ i).b ∧ (μ i).off = 0 ∧ o.cs.length ≤ (μ i).size ∧ ∃ cur : Array Value, w.heap[(μ i).b]? = some (.cells cur o.el (0, 0)) ∧ cur.size = (μ i).size := by
  obtain ⟨h1, h2, h3 | h3⟩ := h.rw i o hi hr
  · exact absurd h3 hz
  · exact ⟨h3.1, h1, h2, h3.2⟩

theorem Rep.lt {w0 : World} {μ : Nat → Pl} {H : Hp} {w : World} (h : Rep w0 μ H w) {i : Nat} {o : AO} (hi : H[i]? = some o) (hr : o.ro = false) (hz : (μ i).size ≠ 0) : (μ i).b < w.heap.size := by
  obtain ⟨_, _, _, cur, hc, _⟩ := h.real hi hr hz
  rcases Nat.lt_or_ge (μ i).b w.heap.size with h | h
  · exact h
  · simp [Array.getElem?_eq_none h] at hc

/-- One object turned: its block written, or a new block taken; all other blocks us they were. -/
theorem Rep.turn {w0 : World} {μ : Nat → Pl} {H : Hp} {w w' : World} (h : Rep w0 μ H w) {id : Nat} {o o' : AO} (hi : H[id]? = some o) (hr : o.ro = false)
    (hr' : o'.ro = false) (hv : o.ver ≤ o'.ver) (hsz : o'.sz = o.sz) (hel : o'.el = o.el) (p : Pl) (hp : o'.ver = o.ver → p = μ id)
    (hb : Below w.heap.size w0 w' ∨ Below w0.heap.size w0 w') (hother : ∀ k, k < w.heap.size → (k ≠ (μ id).b ∨ (μ id).size = 0) → w'.heap[k]? = w.heap[k]?)
    (hnew : (p.b = (μ id).b ∧ p.size = (μ id).size) ∨ w.heap.size ≤ p.b) (hoff : p.off = 0) (hlen : o'.cs.length ≤ p.size)
    (hblk : p.size = 0 ∨ ∃ cur : Array Value, w'.heap[p.b]? = some (.cells cur o'.el (0, 0)) ∧ cur.size = p.size ∧
      ∀ (j : Nat) (c : LV), o'.cs[j]? = some c → ∃ v, cur[j]? = some v ∧ v.oneCell' = true ∧ BR (fun i => if i = id then p else μ i) (H.set id o') c v) :
    Rep w0 (fun i => if i = id then p else μ i) (H.set id o') w' ∧ Ext μ H (fun i => if i = id then p else μ i) (H.set id o') := by
  have hlt : id < H.length := by
    rcases Nat.lt_or_ge id H.length with h | h
    · exact h
    · simp [List.getElem?_eq_none h] at hi
  have hgid : (H.set id o')[id]? = some o' := by simp [hlt]
  have hgne : ∀ i, i ≠ id → (H.set id o')[i]? = H[i]? := fun i hne => by rw [List.getElem?_set_ne (Ne.symm hne)]
  have hext : Ext μ H (fun i => if i = id then p else μ i) (H.set id o') := by
    intro i q hq
    by_cases e : i = id
    · subst e
      have : q = o := Option.some.inj (hq.symm.trans hi)
      subst this
      exact ⟨o', hgid, hv, hr'.trans hr.symm, hsz, hel, fun e => by simp [hp e]⟩
    · exact ⟨q, (hgne i e).trans hq, Nat.le_refl _, rfl, rfl, rfl, fun _ => by simp [e]⟩
  have hbase : (μ id).size ≠ 0 → w0.heap.size ≤ (μ id).b := fun hz => (h.real hi hr hz).1
  have hbel : Below w0.heap.size w0 w' := by
    rcases hb with hb | hb
    · exact hb.mono h.bel.size
    · exact hb
  have hun : ∀ i q, i ≠ id → H[i]? = some q → q.ro = false → (μ i).size ≠ 0 → w'.heap[(μ i).b]? = w.heap[(μ i).b]? := by
    intro i q e hq hro hz
    refine hother _ (h.lt hq hro hz) ?_
    by_cases hz' : (μ id).size = 0
    · exact Or.inr hz'
    · exact Or.inl fun he => e (h.dj i id q o hq hi hro hr hz hz' he)
  refine ⟨⟨hbel, ?_, ?_, ?_, ?_⟩, hext⟩
  · intro i q hq j c hc
    by_cases e : i = id
    · subst e
      rw [hgid] at hq
      cases hq
      rcases hblk with hz | ⟨cur, hc1, hc2, hc3⟩
      · have : o'.cs = [] := List.eq_nil_of_length_eq_zero (by omega)
        rw [this] at hc; simp at hc
      obtain ⟨v, k1, k2, k3⟩ := hc3 j c hc
      refine ⟨v, ?_, k2, k3⟩
      simp only [if_true, ad, hoff, Nat.zero_add]
      rw [cell_row hc1, k1]
    · rw [hgne i e] at hq
      obtain ⟨v, k1, k2, k3⟩ := h.cell i q hq j c hc
      refine ⟨v, ?_, k2, BR.ext hext k3⟩
      simp only [e, if_false]
      rw [← k1]
      have hb1 : (μ i).b < w.heap.size := cell_lt k1
      refine World.cell?_of_block ?_
      cases hro : q.ro
      · refine hun i q e hq hro fun hz => ?_
        obtain ⟨_, g2, _⟩ := h.rw i q hq hro
        have : q.cs = [] := List.eq_nil_of_length_eq_zero (by omega)
        rw [this] at hc; simp at hc
      · refine hother _ hb1 ?_
        by_cases hz : (μ id).size = 0
        · exact Or.inr hz
        · refine Or.inl fun he => ?_
          rcases h.ro i q hq hro with h0 | h0
          · rw [h0] at hc; simp at hc
          · have := hbase hz; simp only [ad] at he; omega
  · intro i q hq hro
    by_cases e : i = id
    · subst e
      rw [hgid] at hq
      cases hq
      rw [hr'] at hro; cases hro
    · rw [hgne i e] at hq
      simpa [e] using h.ro i q hq hro
  · intro i q hq hro
    by_cases e : i = id
    · subst e
      rw [hgid] at hq
      cases hq
      simp only [if_true]
      refine ⟨hoff, hlen, ?_⟩
      rcases hblk with hz | ⟨cur, hc1, hc2, hc3⟩
      · exact Or.inl hz
      by_cases hz : p.size = 0
      · exact Or.inl hz
      refine Or.inr ⟨?_, cur, hc1, hc2⟩
      rcases hnew with hn | hn
      · rw [hn.1]; exact hbase (by omega)
      · have := h.bel.size; omega
    · rw [hgne i e] at hq
      simp only [e, if_false]
      obtain ⟨k1, k2, k3⟩ := h.rw i q hq hro
      refine ⟨k1, k2, ?_⟩
      by_cases hz : (μ i).size = 0
      · exact Or.inl hz
      rcases k3 with k3 | ⟨k3, cur', k4, k5⟩
      · exact absurd k3 hz
      refine Or.inr ⟨k3, cur', ?_, k5⟩
      rw [← k4]
      exact hun i q e hq hro hz
  · intro i j q s hq hs hqr hsr hzi hzj he
    by_cases e : i = id
    · by_cases e' : j = id
      · rw [e, e']
      · subst e
        rw [hgne j e'] at hs
        simp only [if_true, e', if_false] at he hzi hzj
        exfalso
        rcases hnew with hn | hn
        · exact e' (h.dj j i s o hs hi hsr hr hzj (by omega) (by rw [← he, hn.1]))
        · have := h.lt hs hsr hzj; omega
    · by_cases e' : j = id
      · subst e'
        rw [hgne i e] at hq
        simp only [if_true, e, if_false] at he hzi hzj
        exfalso
        rcases hnew with hn | hn
        · exact e (h.dj i j q o hq hi hqr hr hzi (by omega) (by rw [he, hn.1]))
        · have := h.lt hq hqr hzi; omega
      · rw [hgne i e] at hq
        rw [hgne j e'] at hs
        simp only [e, e', if_false] at he hzi hzj
        exact h.dj i j q s hq hs hqr hsr hzi hzj he

/-- A new object: in a new block, or nowhere (then it is empty). -/
theorem Rep.fresh0 {w0 : World} {μ : Nat → Pl} {H : Hp} {w w' : World} (h : Rep w0 μ H w) {o : AO} (hr : o.ro = false) (p : Pl)
    (hb : Below w0.heap.size w0 w') (hother : ∀ k, k < w.heap.size → w'.heap[k]? = w.heap[k]?) (hoff : p.off = 0) (hlen : o.cs.length ≤ p.size)
    (hblk : p.size = 0 ∨ (w.heap.size ≤ p.b ∧ ∃ cur : Array Value, w'.heap[p.b]? = some (.cells cur o.el (0, 0)) ∧ cur.size = p.size ∧
      ∀ (j : Nat) (c : LV), o.cs[j]? = some c → ∃ v, cur[j]? = some v ∧ v.oneCell' = true ∧ BR μ H c v)) :
    Rep w0 (fun i => if i = H.length then p else μ i) (H ++ [o]) w' ∧ Ext μ H (fun i => if i = H.length then p else μ i) (H ++ [o]) := by
  have hold : ∀ i q, H[i]? = some q → i < H.length := fun i q hq => by
    rcases Nat.lt_or_ge i H.length with h | h
    · exact h
    · simp [List.getElem?_eq_none h] at hq
  have hcase : ∀ i q, (H ++ [o])[i]? = some q → (i < H.length ∧ H[i]? = some q) ∨ (i = H.length ∧ q = o) := by
    intro i q hq
    rw [List.getElem?_append] at hq
    split at hq
    · exact Or.inl ⟨by assumption, hq⟩
    · rename_i hn
      have : i - H.length = 0 := by
        rcases Nat.lt_or_ge (i - H.length) 1 with h | h
        · omega
        · simp [List.getElem?_eq_none (l := [o]) (by simpa using h)] at hq
      rw [this] at hq
      simp at hq
      exact Or.inr ⟨by omega, hq.symm⟩
  have hext : Ext μ H (fun i => if i = H.length then p else μ i) (H ++ [o]) := by
    intro i q hq
    have hl := hold i q hq
    exact ⟨q, by rw [List.getElem?_append_left hl]; exact hq, Nat.le_refl _, rfl, rfl, rfl, fun _ => by simp [Nat.ne_of_lt hl]⟩
  refine ⟨⟨hb, ?_, ?_, ?_, ?_⟩, hext⟩
  · intro i q hq j c hc
    rcases hcase i q hq with ⟨hl, hq'⟩ | ⟨rfl, rfl⟩
    · obtain ⟨v, k1, k2, k3⟩ := h.cell i q hq' j c hc
      refine ⟨v, ?_, k2, BR.ext hext k3⟩
      simp only [Nat.ne_of_lt hl, if_false]
      rw [← k1]
      exact World.cell?_of_block (hother _ (cell_lt k1))
    · rcases hblk with hz | ⟨_, cur, hc1, hc2, hc3⟩
      · have : q.cs = [] := List.eq_nil_of_length_eq_zero (by omega)
        rw [this] at hc; simp at hc
      obtain ⟨v, k1, k2, k3⟩ := hc3 j c hc
      refine ⟨v, ?_, k2, BR.ext hext k3⟩
      simp only [if_true, ad, hoff, Nat.zero_add]
      rw [cell_row hc1, k1]
  · intro i q hq hro
    rcases hcase i q hq with ⟨hl, hq'⟩ | ⟨rfl, rfl⟩
    · simpa [Nat.ne_of_lt hl] using h.ro i q hq' hro
    · rw [hr] at hro; cases hro
  · intro i q hq hro
    rcases hcase i q hq with ⟨hl, hq'⟩ | ⟨rfl, rfl⟩
    · simp only [Nat.ne_of_lt hl, if_false]
      obtain ⟨k1, k2, k3⟩ := h.rw i q hq' hro
      refine ⟨k1, k2, ?_⟩
      by_cases hz : (μ i).size = 0
      · exact Or.inl hz
      rcases k3 with k3 | ⟨k3, cur', k4, k5⟩
      · exact absurd k3 hz
      exact Or.inr ⟨k3, cur', by rw [← k4]; exact hother _ (h.lt hq' hro hz), k5⟩
    · simp only [if_true]
      refine ⟨hoff, hlen, ?_⟩
      rcases hblk with hz | ⟨hn, cur, hc1, hc2, hc3⟩
      · exact Or.inl hz
      · exact Or.inr ⟨Nat.le_trans h.bel.size hn, cur, hc1, hc2⟩
  · intro i j q s hq hs hqr hsr hzi hzj he
    rcases hcase i q hq with ⟨hl, hq'⟩ | ⟨rfl, rfl⟩
    · rcases hcase j s hs with ⟨hl2, hs'⟩ | ⟨rfl, rfl⟩
      · simp only [Nat.ne_of_lt hl, Nat.ne_of_lt hl2, if_false] at he hzi hzj
        exact h.dj i j q s hq' hs' hqr hsr hzi hzj he
      · simp only [Nat.ne_of_lt hl, if_false, if_true] at he hzi hzj
        have := h.lt hq' hqr hzi
        rcases hblk with hz | ⟨hn, _⟩
        · exact absurd hz hzj
        · omega
    · rcases hcase j s hs with ⟨hl2, hs'⟩ | ⟨rfl, rfl⟩
      · simp only [Nat.ne_of_lt hl2, if_false, if_true] at he hzi hzj
        have := h.lt hs' hsr hzj
        rcases hblk with hz | ⟨hn, _⟩
        · exact absurd hz hzi
        · omega
      · rfl

theorem Rep.fresh {w0 : World} {μ : Nat → Pl} {H : Hp} {w w' : World} (h : Rep w0 μ H w) {o : AO} (hr : o.ro = false) (p : Pl)
    (hb : Below w0.heap.size w0 w') (hother : ∀ k, k < w.heap.size → w'.heap[k]? = w.heap[k]?) (hnew : w.heap.size ≤ p.b) (hoff : p.off = 0) (hlen : o.cs.length ≤ p.size)
    (hblk : ∃ cur : Array Value, w'.heap[p.b]? = some (.cells cur o.el (0, 0)) ∧ cur.size = p.size ∧
      ∀ (j : Nat) (c : LV), o.cs[j]? = some c → ∃ v, cur[j]? = some v ∧ v.oneCell' = true ∧ BR μ H c v) :
    Rep w0 (fun i => if i = H.length then p else μ i) (H ++ [o]) w' ∧ Ext μ H (fun i => if i = H.length then p else μ i) (H ++ [o]) :=
  h.fresh0 hr p hb hother hoff hlen (Or.inr ⟨hnew, hblk⟩)

/-- An empty object that lies nowhere. -/
theorem Rep.virt {w0 : World} {μ : Nat → Pl} {H : Hp} {w : World} (h : Rep w0 μ H w) (el sz : Nat) :
    Rep w0 (fun i => if i = H.length then ⟨0, 0, 0⟩ else μ i) (H ++ [⟨0, false, el, sz, []⟩]) w ∧ Ext μ H (fun i => if i = H.length then ⟨0, 0, 0⟩ else μ i) (H ++ [⟨0, false, el, sz, []⟩]) :=
  h.fresh0 rfl ⟨0, 0, 0⟩ h.bel (fun _ _ => rfl) rfl (Nat.le_refl _) (Or.inl rfl)
end Go.Proofs.Ytfofkebkcjkjeaa
