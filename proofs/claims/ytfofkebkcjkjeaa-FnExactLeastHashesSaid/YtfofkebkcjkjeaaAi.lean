/- The abstract machine's append is sound. -/
import Derived.Test.YtfofkebkcjkjeaaAh
namespace Go.Proofs.Ytfofkebkcjkjeaa
open Go.RowKit
set_option linter.unusedSimpArgs false
set_option linter.unusedVariables false
set_option linter.unusedSectionVars false

theorem All2.snoc_get {μ : Nat → Pl} {H : Hp} {cs : List LV} {us : List Value} (h : All2 (BR μ H) cs us) (ho : ∀ u ∈ us, u.oneCell' = true) (z : Array Value) :
    ∀ (j : Nat) (c : LV), cs[j]? = some c → ∃ v, (us.toArray ++ z)[j]? = some v ∧ v.oneCell' = true ∧ BR μ H c v := by
  intro j c hj
  obtain ⟨v, k1, k2⟩ := h.get j c hj
  refine ⟨v, ?_, ho v (List.mem_of_getElem? k1), k2⟩
  have hlt : j < us.toArray.size := by
    rcases Nat.lt_or_ge j us.length with h | h
    · simpa using h
    · simp [List.getElem?_eq_none h] at k1
  rw [Array.getElem?_append, if_pos hlt, List.getElem?_toArray]
  exact k1

theorem run_append_growO {P : Program} (w : World) (t ty e : TypeId) (i : TypeInfo) (z : Value) (h1 : P.underlying t = some (.slice e)) (z1 : P.info? e = some i) (z4 : i.zero = some z) (b : Option Addr) (n c : Nat) (olds : List Value)
    (hl : olds.length = n * i.size) (ho : ∀ j v, olds[j]? = some v → ∃ a, b = some a ∧ w.cell? (a.add j) = some v) (hb : b = none → c = 0 ∧ n = 0) (a' : Addr) (m c' : Nat) (us : List Value) (hul : us.length = m * i.size)
    (hsc : ∀ j v, us[j]? = some v → w.cell? (a'.add j) = some v) (hg : c < n + m) (h63 : ((n + m : Nat) : Int) ≤ 9223372036854775807) (hfit : Builtin.nextslicecap (n + m) c * i.bytes ≤ 281474976710656) :
    (Builtin.append_ #[t, t] ty #[.slice b n c, .slice (some a') m c']).run P w =
      .ok (.slice (some ⟨w.heap.size, 0, none⟩) (n + m) (grownCap w (n + m) c e)) (w.drew.alloc (.cells (olds.toArray ++ us.toArray ++ Builtin.zeroCells z.cells (grownCap w (n + m) c e - (n + m))) e)) := by
  cases b with
  | some b => exact run_append_grow w t ty e i z h1 z1 z4 b n c olds hl (fun j v hj => by obtain ⟨a, e, h⟩ := ho j v hj; cases e; exact h) a' m c' us hul hsc hg h63 hfit
  | none =>
    obtain ⟨rfl, rfl⟩ := hb rfl
    have h0 : olds = [] := List.eq_nil_of_length_eq_zero (by simpa using hl)
    subst h0
    rw [Nat.zero_add] at hfit
    rw [nextslicecap_zero (by omega)] at hfit
    have := run_append_nil (P := P) w t ty e i z h1 z1 z4 a' m c' us hul hsc (by omega) (by omega) hfit
    simpa using this

section
variable {P : Program} {T : Tab} (hT : TabOk P T) {w0 w : World} {μ : Nat → Pl} {H : Hp} (hR : Rep w0 μ H w)
include hT hR

/-- The row that an append makes anew. -/
theorem grown_row {e : TypeId} {te : TE} (ht : T e = some te) (hsz : te.sz ≠ 0) {t et : TypeId} {need c0 : Nat} {cs : List LV} {us : List Value} (hu : All2 (BR μ H) cs us) (ho : ∀ u ∈ us, u.oneCell' = true) (hl : us.length = need * te.sz)
    {z : Value} {i : TypeInfo} (z1 : P.info? e = some i) (z2 : i.size = te.sz) (z4 : i.zero = some z) (z5 : z.cells.size = te.sz) :
    let g := grownCap w need c0 e
    let cur := us.toArray ++ Builtin.zeroCells z.cells (g - need)
    cur.size = g * te.sz ∧ (∀ (j : Nat) (c : LV), cs[j]? = some c → ∃ v, cur[j]? = some v ∧ v.oneCell' = true ∧ BR μ H c v) ∧ cs.length ≤ cur.size ∧ need ≤ g := by
  intro g cur
  have hge : need ≤ g := grownCap_ge w need c0 e
  have hs : cur.size = g * te.sz := by
    simp only [cur, Array.size_append, List.size_toArray, size_zeroCells, z5, hl]
    rw [← Nat.add_mul]; congr 1; omega
  refine ⟨hs, hu.snoc_get ho _, ?_, hge⟩
  rw [hs, hu.len, hl]
  exact Nat.mul_le_mul_right _ hge

theorem aappend_sound {t : TypeId} {x y z : LV} {v u : Value} {H' : Hp} (h : aappend T H t x y = some (z, H')) (hx : TR μ H x v) (hy : TR μ H y u) (ty : TypeId) :
    ∃ r w' μ', (Builtin.append_ #[t, t] ty #[v, u]).run P w = .ok r w' ∧ Rep w0 μ' H' w' ∧ TR μ' H' z r ∧ Ext μ H μ' H' := by
  unfold aappend at h
  split at h
  case h_2 => cases h
  rename_i te0 hs
  split at h
  case h_2 => cases h
  rename_i e htd
  split at h
  case h_2 => cases h
  rename_i te ht
  split at h
  case h_2 => cases h
  rename_i m news hm hnews
  unfold aapp at h
  by_cases hsz0 : te.sz = 0
  · rw [if_pos hsz0] at h; cases h
  rw [if_neg hsz0] at h
  split at h
  · cases h
  rename_i hall
  simp only [Bool.not_eq_true, Bool.not_eq_false] at hall
  have hall' : news.all LV.isCell = true := by simpa using hall
  obtain ⟨d, h1, h2⟩ := tab_und hT hs
  rw [htd] at h2
  have hd : d = .slice e := h2
  subst hd
  obtain ⟨i, zz, z1, z2, z3, z4, z5, z6, z7⟩ := tab_info hT ht
  have hzl : zz.cells.size = te.sz := by
    have := (z6 μ H).len
    have hl2 : zz.cells.toList.length = zz.cells.size := Array.length_toList
    omega
  obtain ⟨g1, us, g2, g3, g4, g5, g6⟩ := src_sound (P := P) hR hy hm hnews m (Nat.le_refl _)
  rw [List.take_of_length_le (by omega)] at g5
  -- where the new cells lie
  have hsrc : 0 < m → ∃ a' c', u = .slice (some a') m c' ∧ ∀ j v, us[j]? = some v → w.cell? (a'.add j) = some v := by
    intro hpos
    cases y <;> simp only [lenOf, cellsOf] at hm hnews <;> try cases hm
    case nils => omega
    case emp => omega
    case sl id ver off cap =>
      obtain ⟨o, a, c, q1, q2, rfl, q3⟩ := (hy : BR μ H (.sl id ver off m cap) u)
      obtain ⟨p1, _, us', p3, p4', p5, p6⟩ := sl_cells hR q1 q3 hnews
      obtain ⟨r1, r2, _⟩ := q3 p1.symm
      obtain rfl := r2 (by omega)
      have p4 : ∀ j u, us'[j]? = some u → w.cell? ((ad (μ id) off).add j) = some u := fun j u hu => by
        obtain ⟨b, e, h⟩ := p4' j u hu
        cases e; exact h
      refine ⟨_, c, rfl, ?_⟩
      have hf := run_firstCells_some (P := P) w te.sz m _ m c us' p3 p4
      rw [hf] at g3
      have : us' = us := by simpa using (Result.ok.inj g3).1
      rw [← this]; exact p4
  split at h
  · -- nil
    obtain ⟨a, rfl⟩ := (hx : BR μ H .nils v)
    by_cases hm0 : m = 0
    · rw [if_pos hm0] at h
      cases h
      subst hm0
      have hu : us = [] := List.eq_nil_of_length_eq_zero (by simpa using g2)
      subst hu
      refine ⟨_, w, μ, run_append_store hT hs htd ht ty g3 g4 (Nat.le_refl _) (by cases a <;> rfl), hR, ⟨a, rfl⟩, Ext.refl _ _⟩
    · rw [if_neg hm0] at h
      split at h
      case isFalse => cases h
      rename_i hb
      cases h
      obtain ⟨a', c', rfl, hcells⟩ := hsrc (by omega)
      obtain ⟨r1, r2, r3, r4⟩ := grown_row hT hR (t := t) (et := t) ht hsz0 (need := m) (c0 := 0) g5 g6 g2 z1 z2 z4 hzl
      obtain ⟨k1, k2⟩ := hR.made 1 e te.sz r3 r2
      have hrun : (Builtin.append_ #[t, t] ty #[.slice a 0 0, .slice (some a') m c']).run P w = .ok (.slice (some ⟨w.heap.size, 0, none⟩) m (grownCap w m 0 e)) (w.drew.alloc (.cells (us.toArray ++ Builtin.zeroCells zz.cells (grownCap w m 0 e - m)) e)) := by
        cases a with
        | none => exact run_append_nil w t ty e i zz h1 z1 z4 a' m c' us (by rw [z2]; exact g2) hcells (by omega) (by omega) (by rw [z3]; omega)
        | some b =>
          have := run_append_grow (P := P) w t ty e i zz h1 z1 z4 b 0 0 [] (by simp) (by simp) a' m c' us (by rw [z2]; exact g2) hcells (by omega) (by simp; omega) (by rw [z3]; exact growslice_fits (by omega) (by simpa using hb.1))
          simpa using this
      refine ⟨_, _, _, hrun, k1, ?_, k2⟩
      exact ⟨⟨0, false, e, te.sz, news⟩, _, _, by simp, Nat.le_refl _, rfl, fun _ => ⟨r4, fun _ => by simp [ad], (by intro k hk; cases hk), fun _ => ⟨fun _ => by simp only [if_true]; rw [r1]; omega, by simp only [if_true]; rw [r1]; omega⟩⟩⟩
  · -- a slice
    rename_i id ver off n cap
    unfold aappO at h
    split at h
    case h_1 => cases h
    rename_i o ho
    by_cases hver : o.ver ≠ ver
    · rw [if_pos hver] at h; cases h
    rw [if_neg hver] at h
    by_cases hosz : o.sz ≠ te.sz
    · rw [if_pos hosz] at h; cases h
    rw [if_neg hosz] at h
    by_cases hoel : o.el ≠ e
    · rw [if_pos hoel] at h; cases h
    rw [if_neg hoel] at h
    have hver' : o.ver = ver := Decidable.not_not.1 hver
    have hosz' : o.sz = te.sz := Decidable.not_not.1 hosz
    have hoel' : o.el = e := Decidable.not_not.1 hoel
    have hxx : BR μ H (.sl id ver off n cap) v := hx
    obtain ⟨o', a, c, q1, q2, rfl, q3⟩ := (hx : BR μ H (.sl id ver off n cap) v)
    rw [ho] at q1; cases q1
    obtain ⟨p1, p2, p3, p4⟩ := q3 hver'.symm
    have hnone : a = none → c = 0 ∧ n = 0 := fun e => by
      rcases Nat.eq_zero_or_pos c with h | h
      · omega
      · rw [e] at p2; cases p2 h
    split at h
    · -- own
      by_cases hro : o.ro = true
      · rw [if_pos hro] at h; cases h
      rw [if_neg hro] at h
      have hro' : o.ro = false := by simpa using hro
      obtain ⟨b2, b3, _⟩ := hR.rw id o ho hro'
      have hcap := (p4 hro').1 rfl
      rw [hosz'] at hcap
      split at h
      · -- room that is known
        rename_i hin
        cases h
        have hcm : n + m ≤ c := by
          have : (n + m) * te.sz ≤ c * te.sz := by omega
          exact Nat.le_of_mul_le_mul_right this (by omega)
        have hdist : (n + m) * te.sz = n * te.sz + m * te.sz := Nat.add_mul _ _ _
        have hp : hput H id ver (off + n * te.sz) news = some (H.set id { o with cs := sets o.cs (off + n * te.sz) news }) := by
          unfold hput
          rw [ho]
          simp only
          rw [if_pos ⟨hver', hro', by omega⟩]
        obtain ⟨w', s1, s2, s3, _⟩ := hput_sound (P := P) hR hp g5 hall'
        have hrun : (Builtin.append_ #[t, t] ty #[.slice a n c, u]).run P w = .ok (.slice a (n + m) c) w' := by
          refine run_append_store hT hs htd ht ty g3 g4 hcm ?_
          rcases Nat.eq_zero_or_pos c with hc | hc
          · have h0 : m = 0 := by omega
            subst h0
            have hu : us = [] := List.eq_nil_of_length_eq_zero (by simpa using g2)
            subst hu
            simp only [storeCells] at s1
            cases a
            · exact (Result.ok.inj s1).2.symm
            · simp only [storeCells]; exact s1
          · have e := p2 hc
            rw [e]
            simp only [ad_add]; exact s1
        refine ⟨_, w', μ, hrun, s2, ?_, s3⟩
        have hb := BR.ext s3 hxx
        obtain ⟨o2, a2, c2, t1, t2, t3, t4⟩ := hb
        cases t3
        exact ⟨o2, _, _, t1, t2, rfl, fun e => ⟨hcm, (t4 e).2.1, (t4 e).2.2.1, (t4 e).2.2.2⟩⟩
      · split at h
        case isFalse => cases h
        rename_i hnin hgr
        cases h
        obtain ⟨rfl, hlen, hcells, hby, h44⟩ := hgr
        have hlt : id < H.length := by
          rcases Nat.lt_or_ge id H.length with h | h
          · exact h
          · simp [List.getElem?_eq_none h] at ho
        -- the old cells
        obtain ⟨olds, e1, e2, e3, e4⟩ := seg_sound hR ho 0 (n * te.sz) (by omega)
        have hseg : (o.cs.drop 0).take (n * te.sz) = o.cs := by rw [List.drop_zero, List.take_of_length_le (by omega)]
        rw [hseg] at e3
        have hboth : All2 (BR μ H) (o.cs ++ news) (olds ++ us) := e3.app g5
        have hone : ∀ x ∈ olds ++ us, x.oneCell' = true := fun x hx => by
          rcases List.mem_append.1 hx with hx | hx
          · exact e4 x hx
          · exact g6 x hx
        have hlen2 : (olds ++ us).length = (n + m) * te.sz := by rw [List.length_append, e1, g2, Nat.add_mul]
        have fin : ∀ (p : Pl) (w' : World) (cc : Nat), Rep w0 (fun i => if i = id then p else μ i) (H.set id { o with ver := ver + 1, cs := o.cs ++ news }) w' → p.off = 0 → n + m ≤ cc → cc * te.sz = p.size → (0 < cc → True) →
            TR (fun i => if i = id then p else μ i) (H.set id { o with ver := ver + 1, cs := o.cs ++ news }) (.sl id (ver + 1) 0 (n + m) none) (.slice (some ⟨p.b, 0, none⟩) (n + m) cc) := by
          intro p w' cc _ hp0 hcc hsize _
          exact ⟨_, _, _, List.getElem?_set_self hlt, Nat.le_refl _, rfl, fun _ => ⟨hcc, fun _ => by simp [ad, hp0], (by intro k hk; cases hk), fun _ => ⟨fun _ => by simp only [if_true, hosz']; omega, by simp only [if_true, hosz']; omega⟩⟩⟩
        have hE : ∀ p, Ext μ H (fun i => if i = id then p else μ i) (H.set id { o with ver := ver + 1, cs := o.cs ++ news }) := by
          intro p j q hq
          by_cases ej : j = id
          · subst ej
            rw [ho] at hq; cases hq
            exact ⟨_, List.getElem?_set_self hlt, by simp only; omega, rfl, rfl, rfl, fun hh => by simp only at hh; omega⟩
          · exact ⟨q, by rw [List.getElem?_set_ne (Ne.symm ej)]; exact hq, Nat.le_refl _, rfl, rfl, rfl, fun _ => by simp [ej]⟩
        by_cases hroom : n + m ≤ c
        · -- it fits
          rcases Nat.eq_zero_or_pos c with hc0 | hc0
          · subst hc0
            have hz : (μ id).size = 0 := by omega
            have hm0 : m = 0 := by omega
            have hn0 : n = 0 := by omega
            subst hm0
            subst hn0
            have hu : us = [] := List.eq_nil_of_length_eq_zero (by simpa using g2)
            subst hu
            have hn0 : news = [] := List.eq_nil_of_length_eq_zero (by simpa using g1)
            have ho0 : o.cs = [] := List.eq_nil_of_length_eq_zero (by simpa using hlen)
            have hrun := run_append_store hT hs htd ht ty g3 g4 hroom (a := a) (w' := w) (by cases a <;> rfl)
            have s2 := (hR.turn (o' := { o with ver := ver + 1, cs := o.cs ++ news }) (w' := w) ho hro' hro' (by simp only; omega) rfl rfl (μ id) (fun _ => rfl) (Or.inr hR.bel) (fun _ _ _ => rfl) (Or.inl ⟨rfl, rfl⟩) b2 (by simp [hn0, ho0]) (Or.inl hz)).1
            refine ⟨_, w, _, hrun, s2, ?_, hE _⟩
            exact ⟨_, _, _, List.getElem?_set_self hlt, Nat.le_refl _, rfl, fun _ => ⟨hroom, fun h => by omega, (by intro k hk; cases hk), fun _ => ⟨fun _ => by simp only [if_true, hosz']; omega, by simp only [if_true, hosz']; omega⟩⟩⟩
          obtain rfl := p2 hc0
          have hz : (μ id).size ≠ 0 := by
            have := Nat.mul_pos hc0 (Nat.pos_of_ne_zero hsz0)
            omega
          obtain ⟨b1, _, _, cur, b4, b5⟩ := hR.real ho hro' hz
          have hst : ∃ w', (storeCells ((ad (μ id) 0).add (n * te.sz)) us).run P w = .ok () w' ∧ Rep w0 (fun i => if i = id then μ id else μ i) (H.set id { o with ver := ver + 1, cs := o.cs ++ news }) w' := by
            have hfit : (olds ++ us).length ≤ cur.size := by
              rw [hlen2, b5, ← hcap]
              have := Nat.mul_le_mul_right te.sz hroom
              omega
            have hcl : n * te.sz + us.length ≤ cur.toList.length := by
              have e : cur.toList.length = cur.size := Array.length_toList
              rw [List.length_append, e1] at hfit; omega
            have mk : ∀ w', Below w0.heap.size w0 w' → (∀ k, k < w.heap.size → (k ≠ (μ id).b ∨ (μ id).size = 0) → w'.heap[k]? = w.heap[k]?) → (∃ cur2 : Array Value, w'.heap[(μ id).b]? = some (.cells cur2 o.el (0, 0)) ∧ cur2.size = (μ id).size ∧ ∀ (j : Nat) (v : Value), (olds ++ us)[j]? = some v → cur2[j]? = some v) →
                Rep w0 (fun i => if i = id then μ id else μ i) (H.set id { o with ver := ver + 1, cs := o.cs ++ news }) w' := by
              intro w' hbel hoth ⟨cur2, c1, c2, c3⟩
              refine (hR.turn (o' := { o with ver := ver + 1, cs := o.cs ++ news }) ho hro' hro' (by simp only; omega) rfl rfl (μ id) (fun _ => rfl) (Or.inr hbel) hoth (Or.inl ⟨rfl, rfl⟩) b2 ?_ (Or.inr ⟨cur2, c1, c2, ?_⟩)).1
              · simp only; rw [hboth.len, ← b5]; exact hfit
              · intro j c hj
                obtain ⟨v, k1, k2⟩ := hboth.get j c hj
                exact ⟨v, c3 j v k1, hone v (List.mem_of_getElem? k1), BR.ext (hE _) k2⟩
            have holds : ∀ (j : Nat) (v : Value), olds[j]? = some v → cur[j]? = some v := by
              intro j v hj
              have := e2 j v hj
              rw [ad_add, Nat.zero_add] at this
              have e : ad (μ id) j = ⟨(μ id).b, j, none⟩ := by simp [ad, b2]
              rw [e, cell_row b4] at this
              exact this
            rcases Nat.eq_zero_or_pos m with hm0 | hm0
            · subst hm0
              have hu : us = [] := List.eq_nil_of_length_eq_zero (by simpa using g2)
              subst hu
              exact ⟨w, rfl, mk w hR.bel (fun _ _ _ => rfl) ⟨cur, b4, b5, fun j v hj => holds j v (by simpa using hj)⟩⟩
            · have ha : (ad (μ id) 0).add (n * te.sz) = ⟨(μ id).b, n * te.sz, none⟩ := by rw [ad_add]; simp [ad, b2]
              rw [ha]
              have hst := run_storeCells_at P (μ id).b (n * te.sz) o.el us 0 cur w b4 (by have e : cur.toList.length = cur.size := Array.length_toList; omega) g6
              refine ⟨_, hst, mk _ (below_setRow hR.bel b1 _) (fun k _ hne => setRow_other _ _ _ _ (hne.resolve_right hz)) ⟨_, setRow_heap w _ cur _ _ _ b4, ?_, ?_⟩⟩
              · have e : cur.toList.length = cur.size := Array.length_toList
                simp only [List.size_toArray, List.length_append, List.length_take, List.length_drop]
                omega
              · intro j v hj
                rw [Nat.add_zero, List.getElem?_toArray, splice_get _ _ _ _ hcl]
                rw [List.getElem?_append] at hj
                split at hj
                · rename_i hjl
                  rw [if_neg (by omega), Array.getElem?_toList]
                  exact holds j v hj
                · rename_i hjl
                  have hjl2 : j - olds.length < us.length := by
                    rcases Nat.lt_or_ge (j - olds.length) us.length with h | h
                    · exact h
                    · simp [List.getElem?_eq_none h] at hj
                  rw [if_pos (by omega), ← e1]
                  exact hj
          obtain ⟨w', s1, s2⟩ := hst
          have hrun := run_append_store hT hs htd ht ty g3 g4 hroom (a := some (ad (μ id) 0)) s1
          have := fin (μ id) w' c s2 b2 hroom (by omega) (fun _ => trivial)
          have ha : ad (μ id) 0 = ⟨(μ id).b, 0, none⟩ := by simp [ad, b2]
          rw [ha] at hrun ⊢
          exact ⟨_, w', _, hrun, s2, this, hE _⟩
        · -- it grows
          have hmpos : 0 < m := by omega
          obtain ⟨a', c', rfl, hsc⟩ := hsrc hmpos
          have hoa : ∀ (j : Nat) (v : Value), olds[j]? = some v → ∃ b, a = some b ∧ w.cell? (b.add j) = some v := by
            intro j v hj
            have hpos : 0 < c := by
              rcases Nat.eq_zero_or_pos c with hc | hc
              · have : n = 0 := by omega
                subst this
                have : olds = [] := List.eq_nil_of_length_eq_zero (by simpa using e1)
                subst this; simp at hj
              · exact hc
            exact ⟨_, p2 hpos, e2 j v hj⟩
          have hrun := run_append_growO (P := P) w t ty e i zz h1 z1 z4 a n c olds (by rw [z2]; exact e1) hoa hnone a' m c' us (by rw [z2]; exact g2) hsc (by omega) (by omega) (by rw [z3]; exact growslice_fits (by omega) hby)
          obtain ⟨r1, r2, r3, r4⟩ := grown_row hT hR (t := t) (et := t) ht hsz0 (need := n + m) (c0 := c) hboth hone hlen2 z1 z2 z4 hzl
          have hap : olds.toArray ++ us.toArray ++ Builtin.zeroCells zz.cells (grownCap w (n + m) c e - (n + m)) = (olds ++ us).toArray ++ Builtin.zeroCells zz.cells (grownCap w (n + m) c e - (n + m)) := by simp
          rw [hap] at hrun
          have hrep := (hR.turn (o' := { o with ver := ver + 1, cs := o.cs ++ news }) (w' := w.drew.alloc (.cells ((olds ++ us).toArray ++ Builtin.zeroCells zz.cells (grownCap w (n + m) c e - (n + m))) e)) ho hro' hro' (by simp only; omega) rfl rfl
            ⟨w.heap.size, 0, ((olds ++ us).toArray ++ Builtin.zeroCells zz.cells (grownCap w (n + m) c e - (n + m))).size⟩ (fun hh => by simp only at hh; omega)
            (Or.inr ((hR.bel.drew).alloc (by simpa using hR.bel.size) _)) (fun k hk _ => heap_alloc_old w.drew _ hk) (Or.inr (Nat.le_refl _)) rfl r3 (Or.inr ⟨_, by simp only [hoel']; exact heap_alloc_new w.drew _, rfl, fun j cc hj => by
              obtain ⟨v, k1, k2, k3⟩ := r2 j cc hj
              exact ⟨v, k1, k2, BR.ext (hE _) k3⟩⟩)).1
          exact ⟨_, _, _, hrun, hrep, fin _ _ _ hrep rfl r4 (by rw [r1]) (fun _ => trivial), hE _⟩
    · -- cut
      rename_i k
      split at h
      · cases h
      rename_i hk
      split at h
      case h_2 => cases h
      rename_i olds' hold
      split at h
      case isFalse => cases h
      rename_i hcond
      cases h
      obtain ⟨hoc, hby, h44⟩ := hcond
      have hck : c = k := p3 k rfl
      subst hck
      obtain ⟨_, e0, olds, e1, e2, e3, e4⟩ := sl_cells hR ho q3 hold
      have hmpos : 0 < m := by omega
      obtain ⟨a', c', rfl, hsc⟩ := hsrc hmpos
      have hboth : All2 (BR μ H) (olds' ++ news) (olds ++ us) := e3.app g5
      have hone : ∀ x ∈ olds ++ us, x.oneCell' = true := fun x hx => by
        rcases List.mem_append.1 hx with hx | hx
        · exact e4 x hx
        · exact g6 x hx
      have hlen2 : (olds ++ us).length = (n + m) * te.sz := by rw [List.length_append, e1, g2, Nat.add_mul]
      have hrun := run_append_growO (P := P) w t ty e i zz h1 z1 z4 a n c olds (by rw [z2]; exact e1) e2 hnone a' m c' us (by rw [z2]; exact g2) hsc (by omega) (by omega) (by rw [z3]; exact growslice_fits (by omega) hby)
      obtain ⟨r1, r2, r3, r4⟩ := grown_row hT hR (t := t) (et := t) ht hsz0 (need := n + m) (c0 := c) hboth hone hlen2 z1 z2 z4 hzl
      have hap : olds.toArray ++ us.toArray ++ Builtin.zeroCells zz.cells (grownCap w (n + m) c e - (n + m)) = (olds ++ us).toArray ++ Builtin.zeroCells zz.cells (grownCap w (n + m) c e - (n + m)) := by simp
      rw [hap] at hrun
      obtain ⟨k1, k2⟩ := hR.made 1 e te.sz r3 r2
      refine ⟨_, _, _, hrun, k1, ?_, k2⟩
      exact ⟨⟨0, false, e, te.sz, olds' ++ news⟩, _, _, by simp, Nat.le_refl _, rfl, fun _ => ⟨r4, fun _ => by simp [ad], (by intro k hk; cases hk), fun _ => ⟨fun _ => by simp only [if_true]; rw [r1]; omega, by simp only [if_true]; rw [r1]; omega⟩⟩⟩
  · cases h
end
end Go.Proofs.Ytfofkebkcjkjeaa
