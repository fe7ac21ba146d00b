/- The abstract machine's operations are sound: append, copy, clear, make. -/
import Derived.Test.YtfofkebkcjkjeaaAg
namespace Go.Proofs.Ytfofkebkcjkjeaa
open Go.RowKit
set_option linter.unusedSimpArgs false
set_option linter.unusedVariables false
set_option linter.unusedSectionVars false

theorem All2.take {α β : Type} {R : α → β → Prop} : ∀ {us : List α} {bs : List β} (n : Nat), All2 R us bs → All2 R (us.take n) (bs.take n)
  | [], [], n, _ => by simp [All2]
  | _ :: _, _ :: _, 0, _ => trivial
  | _ :: _, _ :: _, n + 1, h => ⟨h.1, All2.take n h.2⟩
  | [], _ :: _, _, h => h.elim
  | _ :: _, [], _, h => h.elim

section
variable {P : Program} {T : Tab} (hT : TabOk P T) {w0 w : World} {μ : Nat → Pl} {H : Hp} (hR : Rep w0 μ H w)

/-- Where a slice's cells lie: any address serves for no cell. -/
theorem sl_cells (hR : Rep w0 μ H w) {id ver off n : Nat} {cap : Option Nat} {o : AO} {a : Option Addr} {c : Nat} (ho : H[id]? = some o) (h : ver = o.ver → n ≤ c ∧ (0 < c → a = some (ad (μ id) off)) ∧ (∀ k, cap = some k → c = k) ∧ (o.ro = false → (cap = none → off + c * o.sz = (μ id).size) ∧ off + c * o.sz ≤ (μ id).size))
    {sz : Nat} {cs : List LV} (hg : hgets H id ver off (n * sz) = some cs) :
    o.ver = ver ∧ cs.length = n * sz ∧ ∃ us : List Value, us.length = n * sz ∧ (∀ j u, us[j]? = some u → ∃ b, a = some b ∧ w.cell? (b.add j) = some u) ∧ All2 (BR μ H) cs us ∧ ∀ u ∈ us, u.oneCell' = true := by
  obtain ⟨o', g1, g2, g3, g4, us, g5, g6, g7, g8⟩ := hgets_sound hR hg
  rw [ho] at g1; cases g1
  refine ⟨g2, g4, us, g5, ?_, g7, g8⟩
  intro j u hu
  have hj : j < n * sz := by
    rcases Nat.lt_or_ge j us.length with h | h
    · omega
    · simp [List.getElem?_eq_none h] at hu
  obtain ⟨k1, k2, _⟩ := h g2.symm
  have hn : 0 < n := by
    rcases Nat.eq_zero_or_pos n with h | h
    · subst h; simp at hj
    · exact h
  exact ⟨_, k2 (by omega), g6 j u hu⟩

/-- The source of an append or a copy. -/
theorem src_sound (hR : Rep w0 μ H w) {sz m : Nat} {y : LV} {v : Value} {news : List LV} (hv : TR μ H y v) (hl : lenOf y = some m) (hc : cellsOf H sz y = some news) (k : Nat) (hk : k ≤ m) :
    news.length = m * sz ∧ ∃ us : List Value, us.length = k * sz ∧ (Builtin.firstCells sz k v).run P w = .ok us.toArray w ∧ (Builtin.lenOf v).run P w = .ok m w ∧ All2 (BR μ H) (news.take (k * sz)) us ∧ ∀ u ∈ us, u.oneCell' = true := by
  cases y <;> simp only [lenOf, cellsOf] at hl hc <;> try cases hl
  case nils =>
    cases hc
    obtain ⟨a, rfl⟩ := (hv : BR μ H .nils v)
    have hk0 : k = 0 := by omega
    subst hk0
    refine ⟨by simp, [], by simp, ?_, by simp [Builtin.lenOf], by simp [All2], by simp⟩
    cases a <;> simp [Builtin.firstCells, loadCells, loadCellsFrom]
  case emp =>
    cases hc
    obtain ⟨a, c, rfl⟩ := (hv : BR μ H .emp v)
    have hk0 : k = 0 := by omega
    subst hk0
    refine ⟨by simp, [], by simp, ?_, by simp [Builtin.lenOf], by simp [All2], by simp⟩
    cases a <;> simp [Builtin.firstCells, loadCells, loadCellsFrom]
  case sl id ver off cap =>
    obtain ⟨o, a, c, h1, h2, rfl, h3⟩ := (hv : BR μ H (.sl id ver off m cap) v)
    obtain ⟨g1, g2, us, g3, g4, g5, g6⟩ := sl_cells hR h1 h3 hc
    have hkn : k * sz ≤ m * sz := Nat.mul_le_mul_right _ hk
    refine ⟨g2, us.take (k * sz), by simp; omega, ?_, by simp [Builtin.lenOf], g5.take _, fun u hu => g6 u (List.mem_of_mem_take hu)⟩
    cases a with
    | none =>
      have hc0 : m = 0 := by
        obtain ⟨q1, q2, _⟩ := h3 g1.symm
        rcases Nat.eq_zero_or_pos c with hc | hc
        · omega
        · cases q2 hc
      have hk0 : k = 0 := by omega
      subst hk0
      simp [Builtin.firstCells, loadCells, loadCellsFrom]
    | some a =>
      refine run_firstCells_some w sz k a m c (us.take (k * sz)) (by simp; omega) fun j u hu => ?_
      rw [List.getElem?_take] at hu
      split at hu
      · obtain ⟨b, e, h⟩ := g4 j u hu
        cases e; exact h
      · cases hu

include hT

theorem run_append_store {t e : TypeId} {et te : TE} (hs : T t = some et) (htd : et.td = .slice e) (ht : T e = some te) (ty : TypeId) {a : Option Addr} {n c m : Nat} {v : Value} {us : List Value} {w' : World}
    (hf : (Builtin.firstCells te.sz m v).run P w = .ok us.toArray w) (hl : (Builtin.lenOf v).run P w = .ok m w) (hroom : n + m ≤ c)
    (hst : match a with | some a => (storeCells (a.add (n * te.sz)) us).run P w = .ok () w' | none => w' = w) :
    (Builtin.append_ #[t, t] ty #[.slice a n c, v]).run P w = .ok (.slice a (n + m) c) w' := by
  obtain ⟨d, h1, h2⟩ := tab_und hT hs
  rw [htd] at h2
  have hd : d = .slice e := h2
  subst hd
  have hsz := run_siz (w := w) hT ht
  cases a with
  | none =>
    simp only at hst
    subst hst
    simp [Builtin.append_, run_underlying h1, hsz, hl, hroom, hf]
  | some a => simp [Builtin.append_, run_underlying h1, hsz, hl, hroom, hf, hst]

include hR

theorem acopy_sound {t : TypeId} {x y z : LV} {v u : Value} {H' : Hp} (h : acopy T H t x y = some (z, H')) (hx : TR μ H x v) (hy : TR μ H y u) (t2 ty : TypeId) :
    ∃ r w', (Builtin.copy_ #[t, t2] ty #[v, u]).run P w = .ok r w' ∧ Rep w0 μ H' w' ∧ TR μ H' z r ∧ Ext μ H μ H' := by
  unfold acopy at h
  split at h
  · rename_i e sz by_ zs hs
    split at h
    · rename_i te ht
      split at h
      · rename_i n m news hn hm hnews
        split at h
        · cases h
        rename_i hall
        simp only [Bool.not_eq_true, Bool.not_eq_false] at hall
        obtain ⟨d, h1, h2⟩ := tab_und hT hs
        have hd : d = .slice e := h2
        subst hd
        have hsz := run_siz (w := w) hT ht
        obtain ⟨g1, us, g2, g3, g4, g5, g6⟩ := src_sound (P := P) hR hy hm hnews (min m n) (Nat.min_le_left _ _)
        split at h
        · rename_i id ver off n' cap
          simp only [Option.map_eq_some_iff, Prod.mk.injEq] at h
          obtain ⟨H1, hp, rfl, rfl⟩ := h
          obtain ⟨w', k1, k2, k3, o, k4, k5⟩ := hput_sound (P := P) hR hp g5 (by simpa using hall)
          obtain ⟨o', a, c, q1, q2, rfl, q3⟩ := (hx : BR μ H (.sl id ver off n' cap) v)
          rw [k4] at q1; cases q1
          have hnn : n' = n := by simpa [lenOf] using hn
          subst hnn
          obtain ⟨r1, r2, _⟩ := q3 k5.symm
          refine ⟨_, w', ?_, k2, rfl, k3⟩
          have hmin : Nat.min m n' = min m n' := rfl
          rcases Nat.eq_zero_or_pos c with hc | hc
          · have h0 : n' = 0 := by omega
            subst h0
            have hu : us = [] := List.eq_nil_of_length_eq_zero (by simpa using g2)
            subst hu
            simp only [storeCells] at k1
            have hw : w' = w := (Result.ok.inj k1).2.symm
            subst hw
            have hmin0 : Nat.min m 0 = 0 := Nat.min_zero _
            rw [Nat.min_zero] at g3
            cases a <;> simp [Builtin.copy_, run_underlying h1, g4, hmin0, hsz, g3, goInt, storeCells] <;> rfl
          · obtain rfl := r2 hc
            simp [Builtin.copy_, run_underlying h1, g4, hmin, hsz, g3, k1, goInt]
        · cases h
          obtain ⟨a, rfl⟩ := (hx : BR μ H .nils v)
          have hn0 : n = 0 := by simpa [lenOf] using hn.symm
          subst hn0
          have hu : us = [] := List.eq_nil_of_length_eq_zero (by simpa using g2)
          subst hu
          refine ⟨_, w, ?_, hR, rfl, Ext.refl _ _⟩
          have hmin : Nat.min m 0 = min m 0 := rfl
          rw [Nat.min_zero] at g3
          cases a <;> simp [Builtin.copy_, run_underlying h1, g4, hmin, hsz, g3, goInt, storeCells] <;> rfl
        · cases h
      · cases h
    · cases h
  · cases h

theorem aclear_sound {t : TypeId} {x z : LV} {v : Value} {H' : Hp} (h : aclear T H t x = some (z, H')) (hx : TR μ H x v) (ty : TypeId) :
    ∃ r w', (Builtin.clear_ #[t] ty #[v]).run P w = .ok r w' ∧ Rep w0 μ H' w' ∧ TR μ H' z r ∧ Ext μ H μ H' := by
  unfold aclear at h
  split at h
  · rename_i e sz by_ zs hs
    split at h
    · rename_i te ht
      obtain ⟨d, h1, h2⟩ := tab_und hT hs
      have hd : d = .slice e := h2
      subst hd
      split at h
      · cases h
        obtain ⟨a, rfl⟩ := (hx : BR μ H .nils v)
        exact ⟨_, w, by cases a <;> simp [Builtin.clear_, run_underlying h1] <;> rfl, hR, ⟨#[], rfl, trivial⟩, Ext.refl _ _⟩
      · cases h
        obtain ⟨a, c, rfl⟩ := (hx : BR μ H .emp v)
        exact ⟨_, w, by cases a <;> simp [Builtin.clear_, run_underlying h1] <;> rfl, hR, ⟨#[], rfl, trivial⟩, Ext.refl _ _⟩
      · rename_i id ver off n cap
        split at h
        · cases h
        rename_i hall
        simp only [Bool.not_eq_true, Bool.not_eq_false] at hall
        simp only [Option.map_eq_some_iff, Prod.mk.injEq] at h
        obtain ⟨H1, hp, rfl, rfl⟩ := h
        obtain ⟨i, zz, z1, z2, z3, z4, z5, z6, z7⟩ := tab_info hT ht
        have hzl := (z6 μ H).len
        have hl2 : zz.cells.toList.length = zz.cells.size := Array.length_toList
        have hcs : All2 (BR μ H) (zeros te.zs n) (Builtin.zeroCells zz.cells n).toList := by
          refine All2.of_get ?_ fun j c u hc hu => ?_
          · rw [zeros_length, Array.length_toList, size_zeroCells, hzl, hl2]
          · obtain ⟨u', k1, _, k3⟩ := zeros_rel (z6 μ H) z7 n j c hc
            rw [Array.getElem?_toList] at hu
            have : u' = u := by
              have e : (Builtin.zeroCells zz.cells n)[j]? = some u' := k1
              rw [e] at hu; exact Option.some.inj hu
            rw [← this]; exact k3
        have hall2 : (zeros te.zs n).all LV.isCell = true := by
          simp only [zeros, List.all_flatten, List.all_replicate]
          split
          · rfl
          · simpa using hall
        obtain ⟨w', k1, k2, k3, o, k4, k5⟩ := hput_sound (P := P) hR hp hcs hall2
        obtain ⟨o', a, c, q1, q2, rfl, q3⟩ := (hx : BR μ H (.sl id ver off n cap) v)
        rw [k4] at q1; cases q1
        obtain ⟨r1, r2, _⟩ := q3 k5.symm
        have hzero : ∀ w : World, (zeroValue e).run P w = .ok zz w := fun w => by simp [zeroValue, typeInfo, z1, z4]
        rcases Nat.eq_zero_or_pos n with hn | hn
        · subst hn
          have : w' = w := by
            have e : (Builtin.zeroCells zz.cells 0).toList = [] := List.eq_nil_of_length_eq_zero (by rw [Array.length_toList, size_zeroCells]; simp)
            rw [e] at k1
            simp only [storeCells] at k1
            exact (Result.ok.inj k1).2.symm
          subst this
          exact ⟨_, _, by cases a <;> simp [Builtin.clear_, run_underlying h1] <;> rfl, k2, ⟨#[], rfl, trivial⟩, k3⟩
        · obtain rfl := r2 (by omega)
          have hn' : n ≠ 0 := by omega
          obtain ⟨n', rfl⟩ : ∃ n', n = n' + 1 := ⟨n - 1, by omega⟩
          exact ⟨_, _, by simp [Builtin.clear_, run_underlying h1, hzero, k1] <;> rfl, k2, ⟨#[], rfl, trivial⟩, k3⟩
      · cases h
    · cases h
  · cases h
end
end Go.Proofs.Ytfofkebkcjkjeaa
