/- The abstract machine's operations are sound: memory read, written, made. -/
import Derived.Test.YtfofkebkcjkjeaaAd
namespace Go.Proofs.Ytfofkebkcjkjeaa
open Go.RowKit
set_option linter.unusedSimpArgs false
set_option linter.unusedVariables false

theorem ad_add (p : Pl) (off j : Nat) : (ad p off).add j = ad p (off + j) := by
  unfold ad Addr.add
  split
  · rename_i h; subst h; rfl
  · simp [Nat.add_assoc]

theorem cell_shape {μ : Nat → Pl} {H : Hp} {x : LV} {v : Value} (hs : x.isCell = true) (h : BR μ H x v) : v.oneCell' = true ∧ v.cells = #[v] := by
  cases x <;> simp only [LV.isCell, Bool.false_eq_true] at hs
  case bool b => have hv : v = .bool b := h; subst hv; exact ⟨rfl, rfl⟩
  case int k n => have hv : v = .int k n := h; subst hv; exact ⟨rfl, rfl⟩
  case flt k o => obtain ⟨b, rfl, hb⟩ := h; exact ⟨rfl, rfl⟩
  case nils => obtain ⟨a, rfl⟩ := h; exact ⟨rfl, rfl⟩
  case emp => obtain ⟨a, c, rfl⟩ := h; exact ⟨rfl, rfl⟩
  case ptr id ver off => obtain ⟨o, a, h1, h2, rfl, h3⟩ := h; exact ⟨rfl, rfl⟩
  case sl id ver off n cap => obtain ⟨o, a, c, h1, h2, rfl, h3⟩ := h; exact ⟨rfl, rfl⟩

theorem BR_of_TR {μ : Nat → Pl} {H : Hp} {x : LV} {v : Value} (hs : x.isCell = true) (h : TR μ H x v) : BR μ H x v := by
  cases x <;> simp only [LV.isCell, Bool.false_eq_true] at hs <;> exact h

theorem All2.one {μ : Nat → Pl} {H : Hp} : ∀ {xs : List LV} {vs : List Value}, All2 (BR μ H) xs vs → xs.all LV.isCell = true → ∀ v ∈ vs, v.oneCell' = true
  | [], [], _, _ => by intro v hv; cases hv
  | x :: xs, v :: vs, h, hs => by
    simp only [List.all_cons, Bool.and_eq_true] at hs
    intro u hu
    rcases List.mem_cons.1 hu with rfl | hu
    · exact (cell_shape hs.1 h.1).1
    · exact All2.one h.2 hs.2 u hu
  | [], _ :: _, h, _ => h.elim
  | _ :: _, [], h, _ => h.elim

theorem cells_of_cell {μ : Nat → Pl} {H : Hp} {x : LV} {v : Value} (h : TR μ H x v) (hs : (cellsL x).all LV.isCell = true) : All2 (BR μ H) (cellsL x) v.cells.toList := by
  cases x with
  | agg cs => obtain ⟨vs, rfl, h2⟩ := h; exact h2
  | junk => simp [cellsL, LV.isCell] at hs
  | fn f cs => simp [cellsL, LV.isCell] at hs
  | tup cs => simp [cellsL, LV.isCell] at hs
  | bool b => rw [(cell_shape (μ := μ) (H := H) (x := .bool b) rfl h).2]; exact ⟨h, trivial⟩
  | int k n => rw [(cell_shape (μ := μ) (H := H) (x := .int k n) rfl h).2]; exact ⟨h, trivial⟩
  | flt k o => rw [(cell_shape (μ := μ) (H := H) (x := .flt k o) rfl h).2]; exact ⟨h, trivial⟩
  | nils => rw [(cell_shape (μ := μ) (H := H) (x := .nils) rfl h).2]; exact ⟨h, trivial⟩
  | emp => rw [(cell_shape (μ := μ) (H := H) (x := .emp) rfl h).2]; exact ⟨h, trivial⟩
  | ptr a b c => rw [(cell_shape (μ := μ) (H := H) (x := .ptr a b c) rfl h).2]; exact ⟨h, trivial⟩
  | sl a b c d e => rw [(cell_shape (μ := μ) (H := H) (x := .sl a b c d e) rfl h).2]; exact ⟨h, trivial⟩

theorem hget_sound {w0 w : World} {μ : Nat → Pl} {H : Hp} (hR : Rep w0 μ H w) {id ver off : Nat} {c : LV} {v : Value} (h : hget H id ver off = some c) (hv : BR μ H (.ptr id ver off) v) :
    v = .pointer (some (ad (μ id) off)) ∧ ∃ u, w.cell? (ad (μ id) off) = some u ∧ u.oneCell' = true ∧ BR μ H c u := by
  obtain ⟨o, a, h1, h2, h4, h3⟩ := hv
  unfold hget at h
  rw [h1] at h
  simp only at h
  by_cases hver : o.ver = ver
  · rw [if_pos hver] at h
    exact ⟨by rw [h4, h3 hver.symm], hR.cell id o h1 off c h⟩
  · rw [if_neg hver] at h; cases h

/-- Cells of an object, in a row. -/
theorem seg_sound {w0 w : World} {μ : Nat → Pl} {H : Hp} (hR : Rep w0 μ H w) {id : Nat} {o : AO} (h1 : H[id]? = some o) (off n : Nat) (hl : off + n ≤ o.cs.length) :
    ∃ us : List Value, us.length = n ∧ (∀ j u, us[j]? = some u → w.cell? ((ad (μ id) off).add j) = some u) ∧ All2 (BR μ H) ((o.cs.drop off).take n) us ∧ ∀ u ∈ us, u.oneCell' = true := by
  have key : ∀ j, j < n → ∃ u, w.cell? (ad (μ id) (off + j)) = some u ∧ u.oneCell' = true ∧ ∀ c, o.cs[off + j]? = some c → BR μ H c u := by
    intro j hj
    have hlt : off + j < o.cs.length := by omega
    obtain ⟨u, k1, k2, k3⟩ := hR.cell id o h1 (off + j) o.cs[off + j] (by simp [hlt])
    exact ⟨u, k1, k2, fun c hc => by simp [hlt] at hc; subst hc; exact k3⟩
  have hget : ∀ j u, ((List.range n).map fun j => (w.cell? (ad (μ id) (off + j))).getD undef)[j]? = some u → j < n ∧ w.cell? (ad (μ id) (off + j)) = some u ∧ u.oneCell' = true ∧ ∀ c, o.cs[off + j]? = some c → BR μ H c u := by
    intro j u hu
    by_cases hj : j < n
    · obtain ⟨v, k1, k2, k3⟩ := key j hj
      simp [hj, k1] at hu
      subst hu
      exact ⟨hj, k1, k2, k3⟩
    · simp [hj] at hu
  refine ⟨(List.range n).map fun j => (w.cell? (ad (μ id) (off + j))).getD undef, by simp, ?_, ?_, ?_⟩
  · intro j u hu
    rw [ad_add]; exact (hget j u hu).2.1
  · refine All2.of_get (by simp; omega) fun j c u hc hu => ?_
    obtain ⟨hj, _, _, k⟩ := hget j u hu
    refine k c ?_
    rw [List.getElem?_take, if_pos hj, List.getElem?_drop] at hc
    exact hc
  · intro u hu
    obtain ⟨j, hj, e⟩ := List.getElem_of_mem hu
    exact (hget j u (by rw [List.getElem?_eq_getElem hj, e])).2.2.1

theorem hgets_sound {w0 w : World} {μ : Nat → Pl} {H : Hp} (hR : Rep w0 μ H w) {id ver off n : Nat} {cs : List LV} (h : hgets H id ver off n = some cs) :
    ∃ o, H[id]? = some o ∧ o.ver = ver ∧ off + n ≤ o.cs.length ∧ cs.length = n ∧ ∃ us : List Value, us.length = n ∧ (∀ j u, us[j]? = some u → w.cell? ((ad (μ id) off).add j) = some u) ∧ All2 (BR μ H) cs us ∧ ∀ u ∈ us, u.oneCell' = true := by
  unfold hgets at h
  cases h1 : H[id]? with
  | none => rw [h1] at h; cases h
  | some o =>
    rw [h1] at h
    simp only at h
    by_cases hc : o.ver = ver ∧ off + n ≤ o.cs.length
    · rw [if_pos hc] at h
      cases h
      obtain ⟨us, k1, k2, k3, k4⟩ := seg_sound hR h1 off n hc.2
      exact ⟨o, rfl, hc.1, hc.2, by simp; omega, us, k1, k2, k3, k4⟩
    · rw [if_neg hc] at h; cases h

theorem sets_length : ∀ (xs cs : List LV) (off : Nat), (sets cs off xs).length = cs.length
  | [], _, _ => rfl
  | x :: xs, cs, off => by rw [sets, sets_length]; simp

theorem sets_get : ∀ (xs cs : List LV) (off j : Nat), off + xs.length ≤ cs.length → (sets cs off xs)[j]? = if off ≤ j ∧ j < off + xs.length then xs[j - off]? else cs[j]?
  | [], cs, off, j, _ => by rw [sets, if_neg (by simp)]
  | x :: xs, cs, off, j, h => by
    simp only [List.length_cons] at h
    rw [sets, sets_get xs _ _ _ (by simp; omega)]
    by_cases h1 : off + 1 ≤ j ∧ j < off + 1 + xs.length
    · rw [if_pos h1, if_pos (by simp; omega)]
      have e : j - off = (j - (off + 1)) + 1 := by omega
      rw [e, List.getElem?_cons_succ]
    · rw [if_neg h1]
      by_cases h2 : j = off
      · subst h2
        rw [if_pos (by simp), Nat.sub_self, List.getElem?_cons_zero, List.getElem?_set_self (by omega)]
      · rw [if_neg (by simp; omega), List.getElem?_set_ne (by omega)]

theorem splice_get (cur : List Value) (us : List Value) (off j : Nat) (h : off + us.length ≤ cur.length) :
    (cur.take off ++ us ++ cur.drop (off + us.length))[j]? = if off ≤ j ∧ j < off + us.length then us[j - off]? else cur[j]? := by
  have h1 : (cur.take off).length = off := by simp; omega
  by_cases h2 : j < off
  · rw [if_neg (by omega), List.append_assoc, List.getElem?_append_left (by omega), List.getElem?_take, if_pos h2]
  · by_cases h3 : j < off + us.length
    · rw [if_pos (by omega), List.append_assoc, List.getElem?_append_right (by omega), h1, List.getElem?_append_left (by omega)]
    · rw [if_neg (by omega), List.getElem?_append_right (by simp; omega), List.getElem?_drop]
      congr 1
      simp; omega

theorem below_setRow {B : Nat} {a w : World} (h : Below B a w) {g : Nat} (hg : B ≤ g) (cs : Array Value) : Below B a (w.setRow g cs) :=
  h.trans ⟨rfl, rfl, rfl, by simp, fun k hk => setRow_other w g k cs (by omega)⟩

/-- Cells of one object written: in place, its version kept or raised. -/
theorem Rep.write {w0 w : World} {μ : Nat → Pl} {H : Hp} (hR : Rep w0 μ H w) {id : Nat} {o : AO} (h1 : H[id]? = some o) (hro : o.ro = false) (off : Nat) {xs : List LV} {us : List Value}
    (hx : All2 (BR μ H) xs us) (ho : ∀ u ∈ us, u.oneCell' = true) (hl : off + xs.length ≤ o.cs.length) (hz : (μ id).size ≠ 0) {cur : Array Value} (hc : w.heap[(μ id).b]? = some (.cells cur o.el (0, 0))) (hs : cur.size = (μ id).size) :
    Rep w0 μ (H.set id { o with cs := sets o.cs off xs }) (w.setRow (μ id).b (cur.toList.take off ++ us ++ cur.toList.drop (off + us.length)).toArray) ∧
      Ext μ H μ (H.set id { o with cs := sets o.cs off xs }) := by
  have hxl := hx.len
  obtain ⟨b1, b2, b3, _⟩ := hR.real h1 hro hz
  have hcl : off + us.length ≤ cur.toList.length := by have e : cur.toList.length = cur.size := Array.length_toList; omega
  have hext : Ext μ H μ (H.set id { o with cs := sets o.cs off xs }) := by
    intro i q hq
    by_cases e : i = id
    · subst e
      rw [h1] at hq; cases hq
      have : i < H.length := by
        rcases Nat.lt_or_ge i H.length with h | h
        · exact h
        · simp [List.getElem?_eq_none h] at h1
      exact ⟨_, List.getElem?_set_self this, Nat.le_refl _, rfl, rfl, rfl, fun _ => rfl⟩
    · exact ⟨q, by rw [List.getElem?_set_ne (Ne.symm e)]; exact hq, Nat.le_refl _, rfl, rfl, rfl, fun _ => rfl⟩
  have hmu : (fun i => if i = id then μ id else μ i) = μ := by funext i; split <;> simp_all
  have := hR.turn (o' := { o with cs := sets o.cs off xs }) (w' := w.setRow (μ id).b (cur.toList.take off ++ us ++ cur.toList.drop (off + us.length)).toArray) h1 hro hro (Nat.le_refl _) rfl rfl (μ id) (fun _ => rfl)
    (Or.inr (below_setRow hR.bel b1 _)) (fun k _ hne => setRow_other _ _ _ _ (hne.resolve_right hz)) (Or.inl ⟨rfl, rfl⟩) b2 (by simp only [sets_length]; exact b3)
    (Or.inr ⟨_, setRow_heap w _ cur _ _ _ hc, by have e : cur.toList.length = cur.size := Array.length_toList; simp only [List.size_toArray, List.length_append, List.length_take, List.length_drop]; omega, by
      intro j c hj
      simp only at hj
      rw [sets_get _ _ _ _ hl] at hj
      rw [hmu, List.getElem?_toArray, splice_get _ _ _ _ hcl, ← hxl]
      by_cases hin : off ≤ j ∧ j < off + xs.length
      · rw [if_pos hin] at hj ⊢
        obtain ⟨u, k1, k2⟩ := hx.get _ _ hj
        exact ⟨u, k1, ho u (List.mem_of_getElem? k1), BR.ext hext k2⟩
      · rw [if_neg hin] at hj ⊢
        obtain ⟨v, k1, k2, k3⟩ := hR.cell id o h1 j c hj
        refine ⟨v, ?_, k2, BR.ext hext k3⟩
        have e : ad (μ id) j = ⟨(μ id).b, j, none⟩ := by simp [ad, b2]
        rw [e, cell_row hc] at k1
        rw [← k1, Array.getElem?_toList]⟩)
  rw [hmu] at this
  exact this

theorem hput_sound {P : Program} {w0 w : World} {μ : Nat → Pl} {H H' : Hp} (hR : Rep w0 μ H w) {id ver off : Nat} {xs : List LV} {us : List Value} (h : hput H id ver off xs = some H')
    (hx : All2 (BR μ H) xs us) (hs : xs.all LV.isCell = true) : ∃ w', (storeCells (ad (μ id) off) us).run P w = .ok () w' ∧ Rep w0 μ H' w' ∧ Ext μ H μ H' ∧ ∃ o, H[id]? = some o ∧ o.ver = ver := by
  unfold hput at h
  cases h1 : H[id]? with
  | none => rw [h1] at h; cases h
  | some o =>
    rw [h1] at h
    simp only at h
    by_cases hc : o.ver = ver ∧ o.ro = false ∧ off + xs.length ≤ o.cs.length
    · rw [if_pos hc] at h
      cases h
      obtain ⟨hv, hro, hl⟩ := hc
      by_cases hz : (μ id).size = 0
      · have hsz := (hR.rw id o h1 hro).2.1
        have hx0 : xs = [] := List.eq_nil_of_length_eq_zero (by omega)
        subst hx0
        have hu0 : us = [] := List.eq_nil_of_length_eq_zero (by have := hx.len; simpa using this.symm)
        subst hu0
        have e : H.set id { o with cs := sets o.cs off [] } = H := by
          refine List.ext_getElem? fun i => ?_
          by_cases e : i = id
          · subst e
            have : i < H.length := by
              rcases Nat.lt_or_ge i H.length with h | h
              · exact h
              · simp [List.getElem?_eq_none h] at h1
            rw [List.getElem?_set_self this, h1]; rfl
          · rw [List.getElem?_set_ne (Ne.symm e)]
        rw [e]
        exact ⟨w, rfl, hR, Ext.refl _ _, o, rfl, hv⟩
      obtain ⟨b1, b2, b3, cur, b4, b5⟩ := hR.real h1 hro hz
      have ho := hx.one hs
      have hst := run_storeCells_at P (μ id).b off o.el us 0 cur w b4 (by have := hx.len; omega) ho
      obtain ⟨r1, r2⟩ := hR.write h1 hro off hx ho hl hz b4 b5
      refine ⟨_, ?_, r1, r2, o, rfl, hv⟩
      have e : ad (μ id) off = ⟨(μ id).b, off, none⟩ := by simp [ad, b2]
      rw [e]
      simpa using hst
    · rw [if_neg hc] at h; cases h

/-- A new object. -/
theorem Rep.made {w0 w : World} {μ : Nat → Pl} {H : Hp} (hR : Rep w0 μ H w) (n : Nat) (el sz : Nat) {cs : List LV} {cur : Array Value} (hl : cs.length ≤ cur.size)
    (hc : ∀ (j : Nat) (c : LV), cs[j]? = some c → ∃ v, cur[j]? = some v ∧ v.oneCell' = true ∧ BR μ H c v) :
    Rep w0 (fun i => if i = H.length then ⟨w.heap.size, 0, cur.size⟩ else μ i) (H ++ [⟨0, false, el, sz, cs⟩]) ((w.drewN n).alloc (.cells cur el)) ∧
      Ext μ H (fun i => if i = H.length then ⟨w.heap.size, 0, cur.size⟩ else μ i) (H ++ [⟨0, false, el, sz, cs⟩]) :=
  hR.fresh (o := ⟨0, false, el, sz, cs⟩) rfl ⟨w.heap.size, 0, cur.size⟩ ((below_drewN' hR.bel).alloc (by simpa using hR.bel.size) _) (fun k hk => by
      show ((w.drewN n).heap.push _)[k]? = _
      rw [Array.getElem?_push, if_neg (by simp; omega)]; rfl)
    (Nat.le_refl _) rfl hl ⟨cur, by
      show ((w.drewN n).heap.push _)[w.heap.size]? = _
      rw [Array.getElem?_push, if_pos (by simp)], rfl, hc⟩
end Go.Proofs.Ytfofkebkcjkjeaa
