/- The abstract machine: nil slices told as empty ones; results put in order. -/
import Derived.Test.YtfofkebkcjkjeaaAo
namespace Go.Proofs.Ytfofkebkcjkjeaa
open Go.RowKit
set_option linter.unusedSimpArgs false
set_option linter.unusedVariables false
set_option linter.unusedSectionVars false

theorem All2.setL {α β : Type} {R : α → β → Prop} : ∀ {us : List α} {bs : List β} (i : Nat) {a : α}, All2 R us bs → (∀ b, bs[i]? = some b → R a b) → All2 R (us.set i a) bs
  | [], [], _, _, _, _ => trivial
  | _ :: _, y :: _, 0, _, h, k => ⟨k y rfl, h.2⟩
  | _ :: _, _ :: _, i + 1, _, h, k => ⟨h.1, All2.setL i h.2 (fun b hb => k b (by simpa using hb))⟩
  | [], _ :: _, _, _, h, _ => h.elim
  | _ :: _, [], _, _, h, _ => h.elim

theorem BR_virt {μ : Nat → Pl} {H : Hp} {el sz : Nat} {v : Value} (h : BR μ H .nils v) :
    BR (fun i => if i = H.length then ⟨0, 0, 0⟩ else μ i) (H ++ [⟨0, false, el, sz, []⟩]) (.sl H.length 0 0 0 none) v := by
  obtain ⟨a, rfl⟩ := h
  exact ⟨⟨0, false, el, sz, []⟩, a, 0, by simp, Nat.le_refl _, rfl, fun _ => ⟨Nat.le_refl _, fun h => absurd h (Nat.lt_irrefl _), (by intro k hk; cases hk), fun _ => ⟨fun _ => by simp, by simp⟩⟩⟩

/-- A slot that is nil told as an empty slice of an object that lies nowhere. -/
theorem Wk.virt {He H : Hp} {tm : List LV} (i el sz : Nat) (h : tm[i]? = some .nils) : Wk He tm H (tm.set i (.sl H.length 0 0 0 none)) (H ++ [⟨0, false, el, sz, []⟩]) := by
  intro w0 μe μ w vs hx hR hv
  obtain ⟨r1, r2⟩ := hR.virt el sz
  refine ⟨_, hx.trans r2, r1, All2.setL i (hv.mono fun _ _ => TR.ext r2) fun b hb => ?_⟩
  obtain ⟨v, k1, k2⟩ := hv.get i _ h
  rw [hb] at k1; cases k1
  exact TR.of_BR (BR_virt k2)

theorem Rep.recell {w0 w : World} {μ : Nat → Pl} {H : Hp} (hR : Rep w0 μ H w) {id off : Nat} {o : AO} {c0 c : LV} (ho : H[id]? = some o) (hc0 : o.cs[off]? = some c0)
    (hc : ∀ v, BR μ H c0 v → BR μ H c v) : Rep w0 μ (H.set id { o with cs := o.cs.set off c }) w ∧ Ext μ H μ (H.set id { o with cs := o.cs.set off c }) := by
  have hlt : id < H.length := by
    rcases Nat.lt_or_ge id H.length with h | h
    · exact h
    · simp [List.getElem?_eq_none h] at ho
  have hext : Ext μ H μ (H.set id { o with cs := o.cs.set off c }) := by
    intro i q hq
    by_cases e : i = id
    · subst e
      rw [ho] at hq; cases hq
      exact ⟨_, List.getElem?_set_self hlt, Nat.le_refl _, rfl, rfl, rfl, fun _ => rfl⟩
    · exact ⟨q, by rw [List.getElem?_set_ne (Ne.symm e)]; exact hq, Nat.le_refl _, rfl, rfl, rfl, fun _ => rfl⟩
  have hback : ∀ i q, (H.set id { o with cs := o.cs.set off c })[i]? = some q → ∃ q0, H[i]? = some q0 ∧ q.ver = q0.ver ∧ q.ro = q0.ro ∧ q.el = q0.el ∧ q.sz = q0.sz ∧ q.cs.length = q0.cs.length ∧ (i ≠ id → q = q0) ∧ (i = id → q.cs = o.cs.set off c ∧ q0 = o) := by
    intro i q hq
    by_cases e : i = id
    · subst e
      rw [List.getElem?_set_self hlt] at hq; cases hq
      exact ⟨o, ho, rfl, rfl, rfl, rfl, by simp, fun h => absurd rfl h, fun _ => ⟨rfl, rfl⟩⟩
    · rw [List.getElem?_set_ne (Ne.symm e)] at hq
      exact ⟨q, hq, rfl, rfl, rfl, rfl, rfl, fun _ => rfl, fun h => absurd h e⟩
  refine ⟨⟨hR.bel, ?_, ?_, ?_, ?_⟩, hext⟩
  · intro i q hq j x hx
    obtain ⟨q0, h1, _, _, _, _, _, h2, h3⟩ := hback i q hq
    by_cases e : i = id
    · obtain ⟨h4, rfl⟩ := h3 e
      rw [h4, List.getElem?_set] at hx
      split at hx
      · rename_i hj
        subst hj
        split at hx
        · cases hx
          obtain ⟨v, k1, k2, k3⟩ := hR.cell i _ h1 _ _ hc0
          exact ⟨v, k1, k2, BR.ext hext (hc v k3)⟩
        · cases hx
      · obtain ⟨v, k1, k2, k3⟩ := hR.cell i _ h1 j x hx
        exact ⟨v, k1, k2, BR.ext hext k3⟩
    · cases h2 e
      obtain ⟨v, k1, k2, k3⟩ := hR.cell i q h1 j x hx
      exact ⟨v, k1, k2, BR.ext hext k3⟩
  · intro i q hq hro
    obtain ⟨q0, h1, _, h4, _, _, h5, _, _⟩ := hback i q hq
    rcases hR.ro i q0 h1 (by rw [← h4]; exact hro) with h | h
    · exact Or.inl (List.eq_nil_of_length_eq_zero (by rw [h5, h]; rfl))
    · exact Or.inr h
  · intro i q hq hro
    obtain ⟨q0, h1, _, h4, h6, _, h5, _, _⟩ := hback i q hq
    rw [h5, h6]
    exact hR.rw i q0 h1 (by rw [← h4]; exact hro)
  · intro i j q s hq hs hqr hsr
    obtain ⟨q0, h1, _, h4, _⟩ := hback i q hq
    obtain ⟨s0, g1, _, g4, _⟩ := hback j s hs
    exact hR.dj i j q0 s0 h1 g1 (by rw [← h4]; exact hqr) (by rw [← g4]; exact hsr)

/-- A cell that is nil told so. -/
theorem Wk.virtC {He H : Hp} {tm : List LV} (id off el sz : Nat) {o : AO} (ho : H[id]? = some o) (hc : o.cs[off]? = some .nils) :
    Wk He tm H tm (H.set id { o with cs := o.cs.set off (.sl H.length 0 0 0 none) } ++ [⟨0, false, el, sz, []⟩]) := by
  intro w0 μe μ w vs hx hR hv
  obtain ⟨r1, r2⟩ := hR.virt el sz
  have hlt : id < H.length := by
    rcases Nat.lt_or_ge id H.length with h | h
    · exact h
    · simp [List.getElem?_eq_none h] at ho
  obtain ⟨s1, s2⟩ := r1.recell (id := id) (off := off) (o := o) (c0 := .nils) (c := .sl H.length 0 0 0 none) (by rw [List.getElem?_append_left hlt]; exact ho) hc (fun v h => BR_virt (μ := μ) h)
  rw [List.set_append_left _ _ hlt] at s1 s2
  exact ⟨_, (hx.trans r2).trans s2, s1, hv.mono fun _ _ h => TR.ext s2 (TR.ext r2 h)⟩

theorem fill_set {α : Type} [Inhabited α] (f : α → LV) (z : LV) (xs : List α) (k : Nat) (h : k < xs.length) :
    ((xs.take k).map f ++ List.replicate (xs.length - k) z).set k (f (ix xs k)) = (xs.take (k + 1)).map f ++ List.replicate (xs.length - (k + 1)) z := by
  have hl : ((xs.take k).map f).length = k := by simp; omega
  have er : xs.length - k = (xs.length - (k + 1)) + 1 := by omega
  rw [List.set_append_right _ _ (by omega), hl, Nat.sub_self, er, List.replicate_succ, List.set_cons_zero, take_ix xs k h]
  simp
theorem mark_set (g : Nat → LV) (cs : List LV) (k : Nat) (h : k < cs.length) : ((List.range k).map g ++ cs.drop k).set k (g k) = (List.range (k + 1)).map g ++ cs.drop (k + 1) := by
  have hl : ((List.range k).map g).length = k := by simp
  have er : cs.drop k = cs[k] :: cs.drop (k + 1) := List.drop_eq_getElem_cons h
  rw [List.set_append_right _ _ (by omega), hl, Nat.sub_self, er, List.set_cons_zero, List.range_succ]
  simp

/-! Results put in order. -/
inductive TdB (n : Nat) (K : Hp) (js : List (Option Nat)) : LV → LV → Prop
  | junk (x : LV) : TdB n K js x .junk
  | old (x : LV) (h : bnd n x) (h2 : x.isCell = true) : TdB n K js x x
  | virt (k : Nat) (h : js[k]? = some none) : TdB n K js .nils (.sl (n + k) 0 0 0 none)
  | own (k j ver off m : Nat) (cap : Option Nat) (h : js[k]? = some (some j)) (o : AO) (h2 : K[j]? = some o) (h3 : o.ver = ver) : TdB n K js (.sl (n + j) ver off m cap) (.sl (n + k) 0 off m cap)
inductive TdL (n : Nat) (K : Hp) (js : List (Option Nat)) : LV → LV → Prop
  | cell {x y : LV} (h : TdB n K js x y) : TdL n K js x y
  | agg {cs ds : List LV} (h : All2 (TdB n K js) cs ds) : TdL n K js (.agg cs) (.agg ds)
inductive TdT (n : Nat) (K : Hp) (js : List (Option Nat)) : LV → LV → Prop
  | one {x y : LV} (h : TdL n K js x y) : TdT n K js x y
  | tup {cs ds : List LV} (h : All2 (TdL n K js) cs ds) : TdT n K js (.tup cs) (.tup ds)

def RowOk (n : Nat) (K : Hp) (js : List (Option Nat)) (s : Option Nat) (row : AO) : Prop := row.ver = 0 ∧ row.ro = false ∧ match s with
  | none => row.cs = []
  | some j => ∃ ver cells, K[j]? = some ⟨ver, false, row.el, row.sz, cells⟩ ∧ row.cs.length ≤ cells.length ∧ All2 (TdB n K js) (cells.take row.cs.length) row.cs

theorem LV.scalar_bnd {n : Nat} : ∀ {cs : List LV}, (∀ c ∈ cs, c.isCell = true ∧ bnd n c) → ∀ {K : Hp} {js : List (Option Nat)}, All2 (TdB n K js) cs cs
  | [], _, _, _ => trivial
  | c :: cs, h, _, _ => ⟨TdB.old c (h c (by simp)).2 (h c (by simp)).1, LV.scalar_bnd fun x hx => h x (by simp [hx])⟩

theorem RowOk.plain {n : Nat} {K : Hp} {js : List (Option Nat)} {j ver el sz : Nat} {cs tail : List LV} (h : K[j]? = some ⟨ver, false, el, sz, cs ++ tail⟩) (hs : ∀ c ∈ cs, c.isCell = true ∧ bnd n c) : RowOk n K js (some j) ⟨0, false, el, sz, cs⟩ :=
  ⟨rfl, rfl, ver, _, h, by simp, by simp only [List.take_left']; exact LV.scalar_bnd hs⟩
theorem RowOk.eq {n : Nat} {K : Hp} {js : List (Option Nat)} {j ver el sz : Nat} {cells cs : List LV} (h : K[j]? = some ⟨ver, false, el, sz, cells⟩) (e : cells = cs) (hs : ∀ c ∈ cs, c.isCell = true ∧ bnd n c) : RowOk n K js (some j) ⟨0, false, el, sz, cs⟩ := by
  subst e
  exact RowOk.plain (tail := []) (by rw [List.append_nil]; exact h) hs
theorem scal_int {n : Nat} (k : IntKind) (xs : List Int) : ∀ c ∈ xs.map (LV.int k), c.isCell = true ∧ bnd n c := by
  intro c hc; obtain ⟨_, _, rfl⟩ := List.mem_map.1 hc; exact ⟨rfl, trivial⟩
theorem scal_flt {n : Nat} (k : FloatKind) (xs : List (Option Nat)) : ∀ c ∈ xs.map (LV.flt k), c.isCell = true ∧ bnd n c := by
  intro c hc; obtain ⟨_, _, rfl⟩ := List.mem_map.1 hc; exact ⟨rfl, trivial⟩
theorem scal_bool {n : Nat} (xs : List Bool) : ∀ c ∈ xs.map LV.bool, c.isCell = true ∧ bnd n c := by
  intro c hc; obtain ⟨_, _, rfl⟩ := List.mem_map.1 hc; exact ⟨rfl, trivial⟩
theorem RowOk.emp {n : Nat} {K : Hp} {js : List (Option Nat)} {j ver el sz : Nat} {cells : List LV} (h : K[j]? = some ⟨ver, false, el, sz, cells⟩) : RowOk n K js (some j) ⟨0, false, el, sz, []⟩ := ⟨rfl, rfl, ver, cells, h, Nat.zero_le _, trivial⟩
theorem RowOk.none {n : Nat} {K : Hp} {js : List (Option Nat)} {el sz : Nat} : RowOk n K js none ⟨0, false, el, sz, []⟩ := ⟨rfl, rfl, rfl⟩

section
variable {H1 K rows : Hp} {js : List (Option Nat)}

def rowMu (n : Nat) (js : List (Option Nat)) (μ : Nat → Pl) (i : Nat) : Pl := if i < n then μ i else match js[i - n]? with
  | some (some j) => μ (n + j)
  | _ => ⟨0, 0, 0⟩

theorem BR.oldR {μ : Nat → Pl} {x : LV} {v : Value} (h1 : bnd H1.length x) (h2 : x.isCell = true) (hx : BR μ (H1 ++ K) x v) : BR (rowMu H1.length js μ) (H1 ++ rows) x v := by
  cases x <;> first | exact hx | cases h2 | skip
  case ptr id ver off =>
    obtain ⟨o, a, g1, g2, g3, g4⟩ := hx
    have hl : id < H1.length := h1
    refine ⟨o, a, by rw [List.getElem?_append_left hl] at g1 ⊢; exact g1, g2, g3, fun e => ?_⟩
    simp only [rowMu, hl, if_true]; exact g4 e
  case sl id ver off m cap =>
    obtain ⟨o, a, c, g1, g2, g3, g4⟩ := hx
    have hl : id < H1.length := h1
    refine ⟨o, a, c, by rw [List.getElem?_append_left hl] at g1 ⊢; exact g1, g2, g3, fun e => ?_⟩
    simp only [rowMu, hl, if_true]; exact g4 e

theorem BR.rowsR {μ : Nat → Pl} (hrows : All2 (RowOk H1.length K js) js rows) {x y : LV} {v : Value} (h : TdB H1.length K js x y) (hx : BR μ (H1 ++ K) x v) : BR (rowMu H1.length js μ) (H1 ++ rows) y v := by
  cases h with
  | junk => trivial
  | old _ h1 h2 => exact BR.oldR h1 h2 hx
  | virt k h =>
    obtain ⟨a, rfl⟩ := hx
    obtain ⟨row, k1, k2⟩ := hrows.get k _ h
    obtain ⟨e1, e2, e3⟩ := k2
    refine ⟨row, a, 0, by rw [List.getElem?_append_right (by omega), Nat.add_sub_cancel_left]; exact k1, Nat.zero_le _, rfl, fun _ => ⟨Nat.le_refl _, fun h => absurd h (Nat.lt_irrefl _), (by intro k hk; cases hk), fun _ => ?_⟩⟩
    have e : (rowMu H1.length js μ (H1.length + k)).size = 0 := by
      unfold rowMu; rw [if_neg (by omega), Nat.add_sub_cancel_left, h]
    rw [e]; exact ⟨fun _ => by simp, by simp⟩
  | own k j ver off m cap h o h2 h3 =>
    obtain ⟨o', a, c, g1, g2, g3, g4⟩ := hx
    rw [List.getElem?_append_right (by omega), Nat.add_sub_cancel_left, h2] at g1
    cases g1
    obtain ⟨row, k1, e1, e2, ver', cells, e3, e4, e5⟩ := hrows.get k _ h
    rw [h2] at e3
    have e3' := Option.some.inj e3
    refine ⟨row, a, c, by rw [List.getElem?_append_right (by omega), Nat.add_sub_cancel_left]; exact k1, Nat.zero_le _, g3, fun _ => ?_⟩
    have e : rowMu H1.length js μ (H1.length + k) = μ (H1.length + j) := by
      unfold rowMu; rw [if_neg (by omega), Nat.add_sub_cancel_left, h]
    rw [e]
    obtain ⟨f1, f2, f3, f4⟩ := g4 h3.symm
    have hsz : o.sz = row.sz := by rw [e3']
    have hro : o.ro = false := by rw [e3']
    exact ⟨f1, f2, f3, fun _ => by rw [← hsz]; exact f4 hro⟩

theorem All2.imp {α β γ : Type} {R : α → β → Prop} {S : α → γ → Prop} {T : β → γ → Prop} (h : ∀ a b c, R a b → S a c → T b c) : ∀ {us : List α} {bs : List β} {cs : List γ}, All2 R us bs → All2 S us cs → All2 T bs cs
  | [], [], [], _, _ => trivial
  | a :: us, b :: bs, c :: cs, h1, h2 => ⟨h a b c h1.1 h2.1, All2.imp h h1.2 h2.2⟩
  | [], _ :: _, _, h, _ => h.elim
  | _ :: _, [], _, h, _ => h.elim
  | [], [], _ :: _, _, k => k.elim
  | _ :: _, _ :: _, [], _, k => k.elim

theorem TdB.isCell {n : Nat} {K : Hp} {js : List (Option Nat)} {x y : LV} (h : TdB n K js x y) (hy : y ≠ .junk) : x.isCell = true := by
  cases h <;> first | rfl | assumption | exact absurd rfl hy

theorem LR.rowsR {μ : Nat → Pl} (hrows : All2 (RowOk H1.length K js) js rows) {x y : LV} {v : Value} (h : TdL H1.length K js x y) (hx : LR μ (H1 ++ K) x v) : LR (rowMu H1.length js μ) (H1 ++ rows) y v := by
  cases h with
  | cell h =>
    by_cases hy : y = .junk
    · subst hy; trivial
    · have hc := h.isCell hy
      have hx' : BR μ (H1 ++ K) x v := by cases x <;> first | exact hx | cases hc
      exact LR.of_BR (BR.rowsR hrows h hx')
  | agg h =>
    obtain ⟨vs, e, k⟩ := hx
    exact ⟨vs, e, All2.imp (R := TdB H1.length K js) (S := BR μ (H1 ++ K)) (T := BR (rowMu H1.length js μ) (H1 ++ rows)) (fun a b c h1 h2 => BR.rowsR hrows h1 h2) h k⟩

theorem TR.rowsR {μ : Nat → Pl} (hrows : All2 (RowOk H1.length K js) js rows) {x y : LV} {v : Value} (h : TdT H1.length K js x y) (hx : TR μ (H1 ++ K) x v) : TR (rowMu H1.length js μ) (H1 ++ rows) y v := by
  cases h with
  | one h =>
    cases h with
    | cell h =>
      by_cases hy : y = .junk
      · subst hy; trivial
      · have hc := h.isCell hy
        have hx' : BR μ (H1 ++ K) x v := by cases x <;> first | exact hx | cases hc
        exact TR.of_BR (BR.rowsR hrows h hx')
    | agg h => exact TR.of_LR (LR.rowsR hrows (TdL.agg h) hx)
  | tup h =>
    obtain ⟨vs, e, k⟩ := hx
    exact ⟨vs, e, All2.imp (R := TdL H1.length K js) (S := LR μ (H1 ++ K)) (T := LR (rowMu H1.length js μ) (H1 ++ rows)) (fun a b c h1 h2 => LR.rowsR hrows h1 h2) h k⟩

theorem filterMap_nodup_get {js : List (Option Nat)} (hn : (js.filterMap id).Nodup) {k k' j : Nat} (h : js[k]? = some (some j)) (h' : js[k']? = some (some j)) : k = k' := by
  induction js generalizing k k' with
  | nil => simp at h
  | cons x js ih =>
    have hmem : ∀ i, js[i]? = some (some j) → j ∈ js.filterMap id := fun i hi => by
      rw [List.mem_filterMap]; exact ⟨some j, List.mem_of_getElem? hi, rfl⟩
    have hn' : (js.filterMap id).Nodup := by
      cases x with
      | none => simpa using hn
      | some a => simp only [List.filterMap_cons, id] at hn; exact (List.nodup_cons.1 hn).2
    have hx : ∀ i, x = some j → js[i]? = some (some j) → False := fun i e hi => by
      subst e
      simp only [List.filterMap_cons, id] at hn
      exact (List.nodup_cons.1 hn).1 (hmem i hi)
    cases k with
    | zero =>
      cases k' with
      | zero => rfl
      | succ k' =>
        simp only [List.getElem?_cons_zero, Option.some.injEq] at h
        exact (hx k' h (by simpa using h')).elim
    | succ k =>
      cases k' with
      | zero =>
        simp only [List.getElem?_cons_zero, Option.some.injEq] at h'
        exact (hx k h' (by simpa using h)).elim
      | succ k' => exact congrArg (· + 1) (ih hn' (k := k) (k' := k') (by simpa using h) (by simpa using h'))

theorem Wk.rowsR {He : Hp} {r0 r : LV} (hl : He.length ≤ H1.length) (hc : ∀ (i : Nat) (o : AO), H1[i]? = some o → ∀ c ∈ o.cs, bnd H1.length c) (hn : (js.filterMap id).Nodup)
    (hrows : All2 (RowOk H1.length K js) js rows) (hr : TdT H1.length K js r0 r) : Wk He [r0] (H1 ++ K) [r] (H1 ++ rows) := by
  intro w0 μe μ w vs hx hR hv
  have hmu : ∀ i, i < H1.length → rowMu H1.length js μ i = μ i := fun i hi => by simp [rowMu, hi]
  have hcase : ∀ i q, (H1 ++ rows)[i]? = some q → (i < H1.length ∧ H1[i]? = some q) ∨ ∃ k s, i = H1.length + k ∧ js[k]? = some s ∧ RowOk H1.length K js s q := by
    intro i q hq
    rcases Nat.lt_or_ge i H1.length with h | h
    · rw [List.getElem?_append_left h] at hq; exact Or.inl ⟨h, hq⟩
    · rw [List.getElem?_append_right h] at hq
      have hlen := hrows.len
      have hlt : i - H1.length < js.length := by
        rcases Nat.lt_or_ge (i - H1.length) rows.length with h | h
        · omega
        · simp [List.getElem?_eq_none h] at hq
      obtain ⟨row, k1, k2⟩ := hrows.get (i - H1.length) js[i - H1.length] (by simp [hlt])
      rw [hq] at k1; cases k1
      exact Or.inr ⟨i - H1.length, _, by omega, by simp [hlt], k2⟩
  have hro : ∀ k j (q : AO), js[k]? = some (some j) → rowMu H1.length js μ (H1.length + k) = μ (H1.length + j) := fun k j q h => by
    unfold rowMu; rw [if_neg (by omega), Nat.add_sub_cancel_left, h]
  have hno : ∀ k, js[k]? = some none → rowMu H1.length js μ (H1.length + k) = ⟨0, 0, 0⟩ := fun k h => by
    unfold rowMu; rw [if_neg (by omega), Nat.add_sub_cancel_left, h]
  have hKg : ∀ j (o : AO), K[j]? = some o → (H1 ++ K)[H1.length + j]? = some o := fun j o h => by
    rw [List.getElem?_append_right (by omega), Nat.add_sub_cancel_left]; exact h
  refine ⟨rowMu H1.length js μ, ?_, ⟨hR.bel, ?_, ?_, ?_, ?_⟩, ?_⟩
  · intro i o ho
    obtain ⟨o1, h1, h2, h3, h4, h5, h6⟩ := hx i o ho
    have hi : i < H1.length := by
      rcases Nat.lt_or_ge i He.length with h | h
      · omega
      · simp [List.getElem?_eq_none h] at ho
    rw [List.getElem?_append_left hi] at h1
    exact ⟨o1, by rw [List.getElem?_append_left hi]; exact h1, h2, h3, h4, h5, fun e => by rw [hmu i hi]; exact h6 e⟩
  · intro i q hq j c hcc
    rcases hcase i q hq with ⟨hi, hq'⟩ | ⟨k, s, rfl, hs, hok⟩
    · obtain ⟨v, k1, k2, k3⟩ := hR.cell i q (by rw [List.getElem?_append_left hi]; exact hq') j c hcc
      refine ⟨v, by rw [hmu i hi]; exact k1, k2, ?_⟩
      by_cases hcl : c.isCell = true
      · exact BR.rowsR hrows (TdB.old c (hc i q hq' c (List.mem_of_getElem? hcc)) hcl) k3
      · cases c <;> first | exact (hcl rfl).elim | exact k3.elim | trivial
    · obtain ⟨e1, e2, e3⟩ := hok
      cases s with
      | none => simp only at e3; rw [e3] at hcc; simp at hcc
      | some j0 =>
        obtain ⟨ver, cells, g1, g2, g3⟩ := e3
        rw [hro k j0 q hs]
        have hj : j < q.cs.length := by
          rcases Nat.lt_or_ge j q.cs.length with h | h
          · exact h
          · simp [List.getElem?_eq_none h] at hcc
        have hjc : j < cells.length := by omega
        obtain ⟨v, k1, k2, k3⟩ := hR.cell (H1.length + j0) _ (hKg j0 _ g1) j cells[j] (by simp [hjc])
        obtain ⟨y, y1, y2⟩ := g3.get j cells[j] (by rw [List.getElem?_take, if_pos hj]; simp [hjc])
        rw [hcc] at y1; cases y1
        exact ⟨v, k1, k2, BR.rowsR hrows y2 k3⟩
  · intro i q hq hroo
    rcases hcase i q hq with ⟨hi, hq'⟩ | ⟨k, s, rfl, hs, hok⟩
    · rw [hmu i hi]; exact hR.ro i q (by rw [List.getElem?_append_left hi]; exact hq') hroo
    · rw [hok.2.1] at hroo; cases hroo
  · intro i q hq hroo
    rcases hcase i q hq with ⟨hi, hq'⟩ | ⟨k, s, rfl, hs, hok⟩
    · rw [hmu i hi]; exact hR.rw i q (by rw [List.getElem?_append_left hi]; exact hq') hroo
    · obtain ⟨e1, e2, e3⟩ := hok
      cases s with
      | none => simp only at e3; rw [hno k hs, e3]; exact ⟨rfl, Nat.le_refl _, Or.inl rfl⟩
      | some j0 =>
        obtain ⟨ver, cells, g1, g2, g3⟩ := e3
        rw [hro k j0 q hs]
        obtain ⟨k1, k2, k3⟩ := hR.rw (H1.length + j0) _ (hKg j0 _ g1) rfl
        exact ⟨k1, Nat.le_trans g2 k2, k3⟩
  · intro i i' q s hq hs hqr hsr hzi hzj he
    have hsrc : ∀ i q, (H1 ++ rows)[i]? = some q → q.ro = false → (rowMu H1.length js μ i).size ≠ 0 → ∃ i0 o, (H1 ++ K)[i0]? = some o ∧ o.ro = false ∧ rowMu H1.length js μ i = μ i0 ∧ ((i < H1.length ∧ i0 = i) ∨ ∃ k j, i = H1.length + k ∧ i0 = H1.length + j ∧ js[k]? = some (some j)) := by
      intro i q hq hqr hz
      rcases hcase i q hq with ⟨hi, hq'⟩ | ⟨k, s, rfl, hs, hok⟩
      · exact ⟨i, q, by rw [List.getElem?_append_left hi]; exact hq', hqr, hmu i hi, Or.inl ⟨hi, rfl⟩⟩
      · obtain ⟨e1, e2, e3⟩ := hok
        cases s with
        | none => rw [hno k hs] at hz; exact absurd rfl hz
        | some j0 =>
          obtain ⟨ver, cells, g1, g2, g3⟩ := e3
          exact ⟨H1.length + j0, _, hKg j0 _ g1, rfl, hro k j0 q hs, Or.inr ⟨k, j0, rfl, rfl, hs⟩⟩
    obtain ⟨i0, o, a1, a2, a3, a4⟩ := hsrc i q hq hqr hzi
    obtain ⟨j0, p, b1, b2, b3, b4⟩ := hsrc i' s hs hsr hzj
    rw [a3, b3] at he
    have e := hR.dj i0 j0 o p a1 b1 a2 b2 (by rw [← a3]; exact hzi) (by rw [← b3]; exact hzj) he
    subst e
    rcases a4 with ⟨h1, h2⟩ | ⟨k, j, h1, h2, h3⟩
    · rcases b4 with ⟨g1, g2⟩ | ⟨k', j', g1, g2, g3⟩
      · omega
      · omega
    · rcases b4 with ⟨g1, g2⟩ | ⟨k', j', g1, g2, g3⟩
      · omega
      · have : j = j' := by omega
        subst this
        have := filterMap_nodup_get hn h3 g3
        omega
  · match vs, hv with
    | [v], hv => exact ⟨TR.rowsR hrows hr hv.1, trivial⟩
end

theorem RdL_hj {H K : Hp} {j ver el n : Nat} {ro : Bool} {cs : List LV} (h : K[j]? = some ⟨ver, ro, el, 1, cs⟩) (hn : cs.length = n) : RdL (H ++ K) (.sl (H.length + j) ver 0 n none) cs := by
  subst hn
  refine ⟨rfl, ?_, by unfold szO; rw [hp_getj, h], fun k hk => by cases hk⟩
  simp only [cellsOf, Nat.mul_one, hgets, hp_getj, h]
  simp
theorem RdL_h0 {H K : Hp} {ver el n : Nat} {ro : Bool} {cs : List LV} (h : K[0]? = some ⟨ver, ro, el, 1, cs⟩) (hn : cs.length = n) : RdL (H ++ K) (.sl H.length ver 0 n none) cs := RdL_hj (j := 0) h hn
theorem RdL_id {H : Hp} {id ver el n : Nat} {ro : Bool} {cs : List LV} (h : H[id]? = some ⟨ver, ro, el, 1, cs⟩) (hn : cs.length = n) : RdL H (.sl id ver 0 n none) cs := by
  subst hn
  refine ⟨rfl, ?_, by unfold szO; rw [h], fun k hk => by cases hk⟩
  simp only [cellsOf, Nat.mul_one, hgets, h]
  simp
theorem RdL_nil {H : Hp} : RdL H .nils [] := ⟨rfl, rfl, trivial⟩
theorem RdL_emp {H : Hp} : RdL H .emp [] := ⟨rfl, rfl, trivial⟩

/-! An object of the caller, written. -/
section
variable {H : Hp} {id ver v off n : Nat} {ro : Bool} {e s : Nat} {cs xs : List LV} {o : AO}
theorem hget_setS (h : id < H.length) : hget (H.set id ⟨v, ro, e, s, cs⟩) id v off = cs[off]? := by simp [hget, h]
theorem hgets_setS (h : id < H.length) (h2 : off + n ≤ cs.length) : hgets (H.set id ⟨v, ro, e, s, cs⟩) id v off n = some ((cs.drop off).take n) := by simp [hgets, h, h2]
theorem hput_setS (h : id < H.length) (h2 : off + xs.length ≤ cs.length) : hput (H.set id ⟨v, false, e, s, cs⟩) id v off xs = some (H.set id ⟨v, false, e, s, sets cs off xs⟩) := by simp [hput, h, h2, List.set_set]
theorem liveO_setS (h : id < H.length) : liveO (H.set id ⟨v, ro, e, s, cs⟩) id v = true := by simp [liveO, h]
end
/-- The end of a body whose result is new. -/
theorem EndA_rows {T : Tab} {He K rows : Hp} {rs : List ResultVar} {Q : LV → Hp → Prop} {e : Exit} {tm : List LV} {r0 r : LV} (js : List (Option Nat)) (hcl : Closed He) (he : e = .normal ∨ e = .ret) (h : resA T tm (He ++ K) rs = some r0)
    (hn : (js.filterMap id).Nodup) (hrows : All2 (RowOk He.length K js) js rows) (hr : TdT He.length K js r0 r) (hq : Q r (He ++ rows)) : EndA T He rs Q e tm (He ++ K) :=
  ⟨he, r0, r, _, h, Wk.rowsR (Nat.le_refl _) hcl hn hrows hr, hq⟩

theorem EndA_rows0 {T : Tab} {He rows : Hp} {rs : List ResultVar} {Q : LV → Hp → Prop} {e : Exit} {tm : List LV} {r0 r : LV} (js : List (Option Nat)) (hcl : Closed He) (he : e = .normal ∨ e = .ret) (h : resA T tm He rs = some r0)
    (hn : (js.filterMap id).Nodup) (hrows : All2 (RowOk He.length [] js) js rows) (hr : TdT He.length [] js r0 r) (hq : Q r (He ++ rows)) : EndA T He rs Q e tm He :=
  ⟨he, r0, r, _, h, by have := Wk.rowsR (He := He) (H1 := He) (K := []) (Nat.le_refl _) hcl hn hrows hr; rwa [List.append_nil] at this, hq⟩

/-! For the walks' simp. -/
section
variable {b : Bool} {k : IntKind} {q : FloatKind} {n : Int} {o : Option Nat} {i v f m : Nat} {c : Option Nat} {g : FuncId} {cs : List LV}
theorem isCell_bool : (LV.bool b).isCell = true := rfl
theorem isCell_int : (LV.int k n).isCell = true := rfl
theorem isCell_flt : (LV.flt q o).isCell = true := rfl
theorem isCell_ptr : (LV.ptr i v f).isCell = true := rfl
theorem isCell_nils : LV.nils.isCell = true := rfl
theorem isCell_emp : LV.emp.isCell = true := rfl
theorem isCell_sl : (LV.sl i v f m c).isCell = true := rfl
theorem isCell_junk : LV.junk.isCell = false := rfl
theorem isCell_fn : (LV.fn g cs).isCell = false := rfl
theorem isCell_agg : (LV.agg cs).isCell = false := rfl
theorem isCell_tup : (LV.tup cs).isCell = false := rfl
theorem cellsL_bool : cellsL (LV.bool b) = [LV.bool b] := rfl
theorem cellsL_int : cellsL (LV.int k n) = [LV.int k n] := rfl
theorem cellsL_flt : cellsL (LV.flt q o) = [LV.flt q o] := rfl
theorem cellsL_ptr : cellsL (LV.ptr i v f) = [LV.ptr i v f] := rfl
theorem cellsL_nils : cellsL LV.nils = [LV.nils] := rfl
theorem cellsL_emp : cellsL LV.emp = [LV.emp] := rfl
theorem cellsL_sl : cellsL (LV.sl i v f m c) = [LV.sl i v f m c] := rfl
theorem cellsL_junk : cellsL LV.junk = [LV.junk] := rfl
theorem cellsL_fn : cellsL (LV.fn g cs) = [LV.fn g cs] := rfl
theorem cellsL_agg : cellsL (LV.agg cs) = cs := rfl
end
attribute [go_sem] isCell_bool isCell_int isCell_flt isCell_ptr isCell_nils isCell_emp isCell_sl isCell_junk isCell_fn isCell_agg isCell_tup cellsL_bool cellsL_int cellsL_flt cellsL_ptr cellsL_nils cellsL_emp cellsL_sl cellsL_junk cellsL_fn cellsL_agg
attribute [go_sem] AOp ADo awant acall aop ev constL constB abin aint aflt aun aconv abuiltin aidx putA TD.agg partL List.set_cons_succ List.set_cons_zero List.getD_cons_succ
attribute [go_sem] List.getD_cons_zero List.getElem?_cons_succ List.getElem?_cons_zero List.length_cons List.length_nil List.length_map List.map_cons List.map_nil List.all_cons List.all_nil
attribute [go_sem] List.cons_append List.nil_append List.append_nil List.append_assoc List.length_append List.drop_zero List.take_succ_cons List.take_zero Bool.and_true Bool.true_and Option.bind_some
attribute [go_sem] Option.map_some Option.map_none true_implies Bool.true_eq_false Bool.false_eq_true false_implies and_true true_and if_true if_false ite_true ite_false Bool.not_true Bool.not_false
attribute [go_sem] Nat.add_zero Nat.zero_add Nat.mul_one Nat.zero_mul hp_get0 hp_getj hp_set0 hp_setj hget_h0 hget_hj hget_c0 hget_cs hgets_h0 hgets_hj hgets_c0 hgets_cs liveO_h0 liveO_hj liveO_c0
attribute [go_sem] liveO_cs hput_h0 hput_hj hput_c0 hput_cs hgetP_ptr hgetsP_ptr hputP_ptr fldP_ptr idxP_sl arrP_ptr lenOf_slv lenOf_nils lenOf_emp cellsOf_sl cellsOf_nils cellsOf_emp sets_nil sets_one
attribute [go_sem] sets_cons aappend aapp aappO_grow aappO_in zeros_one all_int all_flt all_bool map_ix Int.toNat_natCast and_self decide_true decide_false ne_eq not_true_eq_false not_false_eq_true
attribute [go_sem] Array.toList_map List.toList_toArray afill aslice amake_ok asliceS_hi asliceS_lo asliceS_lohi asliceS_all szO_h0 szO_hj szO_c0 szO_cs hget_setS hgets_setS hput_setS liveO_setS
attribute [go_sem] or_self or_false false_or List.replicate_succ List.replicate_zero List.replicate AQOp AQDo List.length_range List.length_take List.length_drop List.length_set List.length_replicate
attribute [go_sem] List.all_append Bool.and_self bne_self_eq_false beq_self_eq_true
end Go.Proofs.Ytfofkebkcjkjeaa
