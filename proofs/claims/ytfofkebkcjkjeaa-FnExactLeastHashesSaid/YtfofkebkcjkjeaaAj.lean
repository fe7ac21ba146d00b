/- The abstract machine's operations are sound: values built, slices made. -/
import Derived.Test.YtfofkebkcjkjeaaAi
namespace Go.Proofs.Ytfofkebkcjkjeaa
open Go.RowKit
set_option linter.unusedSimpArgs false
set_option linter.unusedVariables false
set_option linter.unusedSectionVars false

def CRel (μ : Nat → Pl) (H : Hp) (cs : List LV) (cells : Array Value) : Prop :=
  cs.length = cells.size ∧ ∀ (j : Nat) (c : LV), cs[j]? = some c → ∃ v, cells[j]? = some v ∧ v.oneCell' = true ∧ BR μ H c v

theorem CRel.set {μ : Nat → Pl} {H : Hp} {cs : List LV} {cells : Array Value} (h : CRel μ H cs cells) (i : Nat) {x : LV} {v : Value} (hx : BR μ H x v) (ho : v.oneCell' = true) : CRel μ H (cs.set i x) (cells.setIfInBounds i v) := by
  refine ⟨by simp [h.1], fun j c hj => ?_⟩
  by_cases e : i = j
  · subst e
    have hlt : i < cs.length := by
      rcases Nat.lt_or_ge i (cs.set i x).length with h | h
      · simpa using h
      · simp [List.getElem?_eq_none h] at hj
    rw [List.getElem?_set_self hlt] at hj
    cases hj
    exact ⟨v, by simp [← h.1, hlt], ho, hx⟩
  · rw [List.getElem?_set_ne e] at hj
    obtain ⟨u, k1, k2, k3⟩ := h.2 j c hj
    exact ⟨u, by rw [Array.getElem?_setIfInBounds_ne e]; exact k1, k2, k3⟩

theorem CRel.sets {μ : Nat → Pl} {H : Hp} : ∀ {xs : List LV} {us : List Value} (off k : Nat) {cs : List LV} {cells : Array Value}, CRel μ H cs cells → All2 (BR μ H) xs us → (∀ u ∈ us, u.oneCell' = true) →
    CRel μ H (sets cs (off + k) xs) ((us.zipIdx k).foldl (fun cs p => cs.setIfInBounds (off + p.2) p.1) cells)
  | [], [], _, _, _, _, h, _, _ => h
  | x :: xs, u :: us, off, k, cs, cells, h, hx, ho => by
    simp only [Go.Proofs.Ytfofkebkcjkjeaa.sets, List.zipIdx_cons, List.foldl_cons]
    exact CRel.sets off (k + 1) (h.set (off + k) hx.1 (ho u (by simp))) hx.2 (fun v hv => ho v (by simp [hv]))
  | [], _ :: _, _, _, _, _, _, hx, _ => hx.elim
  | _ :: _, [], _, _, _, _, _, hx, _ => hx.elim

theorem fill_sound {μ : Nat → Pl} {H : Hp} {place place' : Nat → Option (Nat × Nat)} (hp : ∀ i x, place i = some x → place' i = some x) : ∀ {parts : List (Nat × LV)} {vparts : List (Nat × Value)} {cs cs' : List LV} {cells : Array Value}, afill place cs parts = some cs' → CRel μ H cs cells →
    All2 (fun p q => p.1 = q.1 ∧ TR μ H p.2 q.2) parts vparts → ∃ cells', Instr.fill place' cells vparts = some cells' ∧ CRel μ H cs' cells'
  | [], [], cs, cs', cells, h, hc, _ => by
    simp only [afill, Option.some.injEq] at h
    subst h
    exact ⟨cells, rfl, hc⟩
  | (i, x) :: parts, (i', v) :: vparts, cs, cs', cells, h, hc, hr => by
    obtain ⟨⟨hi, hx⟩, hrest⟩ := hr
    simp only at hi hx
    subst hi
    simp only [afill] at h
    cases hpl : place i with
    | none => rw [hpl] at h; cases h
    | some p =>
      obtain ⟨off, size⟩ := p
      rw [hpl] at h
      simp only at h
      split at h
      · cases h
      · rename_i hn
        simp only [not_or] at hn
        obtain ⟨n1, n2, n3⟩ := hn
        have n3' : (cellsL x).all LV.isCell = true := by simpa using n3
        have hcv := cells_of_cell hx n3'
        have hlv := hcv.len
        have hl2 : v.cells.toList.length = v.cells.size := Array.length_toList
        have hc2 := CRel.sets off 0 hc hcv (hcv.one n3')
        obtain ⟨cells', k1, k2⟩ := fill_sound hp h hc2 hrest
        refine ⟨cells', ?_, k2⟩
        have hs1 : v.cells.size = size := by omega
        have hs2 : ¬ (off + v.cells.size > cells.size) := by have := hc.1; omega
        have hfold : v.cells.zipIdx.foldl (fun cs x => match x with | (c, j) => cs.setIfInBounds (off + j) c) cells = (v.cells.toList.zipIdx 0).foldl (fun cs p => cs.setIfInBounds (off + p.2) p.1) cells := by
          rw [← Array.foldl_toList, Array.toList_zipIdx]
        rw [Instr.fill, hp i _ hpl]
        simp only [hs1, ne_eq, not_true_eq_false, decide_false, Bool.false_or]
        rw [if_neg (by rw [hs1] at hs2; simpa using hs2), hfold]
        exact k1
  | [], _ :: _, _, _, _, _, _, hr => hr.elim
  | _ :: _, [], _, _, _, _, _, hr => hr.elim

theorem CRel_of_All2 {μ : Nat → Pl} {H : Hp} {cs : List LV} {cells : Array Value} (h : All2 (BR μ H) cs cells.toList) (ho : ∀ v ∈ cells.toList, v.oneCell' = true) : CRel μ H cs cells := by
  refine ⟨by have := h.len; have e : cells.toList.length = cells.size := Array.length_toList; omega, fun j c hj => ?_⟩
  obtain ⟨v, k1, k2⟩ := h.get j c hj
  exact ⟨v, by rw [← Array.getElem?_toList]; exact k1, ho v (List.mem_of_getElem? k1), k2⟩

theorem All2_of_CRel {μ : Nat → Pl} {H : Hp} {cs : List LV} {cells : Array Value} (h : CRel μ H cs cells) : All2 (BR μ H) cs cells.toList := by
  refine All2.of_get (by rw [Array.length_toList]; exact h.1) fun j a b ha hb => ?_
  obtain ⟨v, k1, _, k3⟩ := h.2 j a ha
  rw [Array.getElem?_toList, k1] at hb
  cases hb; exact k3

section
variable {P : Program} {T : Tab} (hT : TabOk P T) {w0 w : World} {μ : Nat → Pl} {H : Hp} (hR : Rep w0 μ H w)
include hT

theorem mapM_places : ∀ {fields : List Field}, (fields.all fun f => (T f.type).isSome) = true →
    fields.mapM (fun f => (P.info? f.type).map fun i => (f.offset, i.size)) = some (fields.map fun f => (f.offset, ((T f.type).map (·.sz)).getD 0))
  | [], _ => rfl
  | f :: fields, h => by
    simp only [List.all_cons, Bool.and_eq_true] at h
    obtain ⟨te, ht⟩ := Option.isSome_iff_exists.1 h.1
    obtain ⟨i, z, z1, z2, _⟩ := tab_info hT ht
    rw [List.mapM_cons, mapM_places h.2]
    simp [z1, ht, z2]

theorem build_sound {t : TypeId} {te : TE} (ht : T t = some te) {parts : List (Nat × LV)} {vparts : Array (Nat × Value)} (hp : All2 (fun p q => p.1 = q.1 ∧ TR μ H p.2 q.2) parts vparts.toList) {cs : List LV}
    (h : (∃ fs, te.td = .struct fs ∧ (fs.all fun p => (T p.2).isSome) = true ∧ afill (fun i => (fs[i]?).bind fun p => (T p.2).map fun e => (p.1, e.sz)) te.zs parts = some cs) ∨
      ∃ n e ee, te.td = .arr n e ∧ T e = some ee ∧ afill (fun i => some (i * ee.sz, ee.sz)) te.zs parts = some cs) :
    ∃ v, (Instr.build t vparts).run P w = .ok v w ∧ TR μ H (.agg cs) v := by
  obtain ⟨i, z, z1, z2, z3, z4, z5, z6, z7⟩ := tab_info hT ht
  obtain ⟨d, h1, h2⟩ := tab_und hT ht
  have hc := CRel_of_All2 (z6 μ H) z7
  rcases h with ⟨fs, hs, hall, hf⟩ | ⟨n, e, ee, hs, he, hf⟩
  · rw [hs] at h2
    obtain ⟨fields, rfl, h3⟩ := h2
    subst h3
    have hm := mapM_places hT (fields := fields.toList) (by simpa [List.all_map] using hall)
    obtain ⟨cells, k1, k2⟩ := fill_sound (place' := ((fields.toList.map fun f => (f.offset, ((T f.type).map (·.sz)).getD 0)).toArray[·]?)) (fun i x hx => by
      cases hi : fields.toList[i]? with
      | none => simp [List.getElem?_map, hi] at hx
      | some f =>
        simp only [List.getElem?_map, hi, Option.map_some, Option.bind_some, Option.map_eq_some_iff] at hx
        obtain ⟨e, he, rfl⟩ := hx
        simp only [List.getElem?_toArray, List.getElem?_map, hi, Option.map_some, he, Option.getD_some]) hf hc hp
    refine ⟨_, run_build w t vparts cells ?_, cells, rfl, All2_of_CRel k2⟩
    simp only [Program.built, z1, h1, z4, hm]
    exact k1
  · rw [hs] at h2
    have hd : d = .array n e := h2
    subst hd
    obtain ⟨ie, ze, y1, y2, _⟩ := tab_info hT he
    obtain ⟨cells, k1, k2⟩ := fill_sound (place' := fun i => some (i * ee.sz, ee.sz)) (fun _ _ h => h) hf hc hp
    refine ⟨_, run_build w t vparts cells ?_, cells, rfl, All2_of_CRel k2⟩
    simp only [Program.built, z1, h1, z4, y1, y2]
    exact k1

include hR

theorem buildSlice_sound {t e len : Nat} {et te : TE} (hs : T t = some et) (htd : et.td = .slice e) (ht : T e = some te) (hlen : len * te.sz ≤ 16777216) {parts : List (Nat × LV)} {vparts : Array (Nat × Value)}
    (hp : All2 (fun p q => p.1 = q.1 ∧ TR μ H p.2 q.2) parts vparts.toList) {cs : List LV} (hf : afill (fun i => some (i * te.sz, te.sz)) (List.replicate (len * te.sz) .junk) parts = some cs) :
    ∃ w' μ' v, (Instr.buildSlice t len vparts).run P w = .ok v w' ∧ Rep w0 μ' (H ++ [⟨0, false, e, te.sz, cs⟩]) w' ∧ Ext μ H μ' (H ++ [⟨0, false, e, te.sz, cs⟩]) ∧ TR μ' (H ++ [⟨0, false, e, te.sz, cs⟩]) (.sl H.length 0 0 len none) v := by
  obtain ⟨d, h1, h2⟩ := tab_und hT hs
  rw [htd] at h2
  have hd : d = .slice e := h2
  subst hd
  obtain ⟨i, zz, z1, z2, z3, z4, z5, z6, z7⟩ := tab_info hT ht
  have hzl : zz.cells.size = te.sz := by
    have := (z6 μ H).len
    have hl2 : zz.cells.toList.length = zz.cells.size := Array.length_toList
    omega
  have hsz := run_siz (w := w) hT ht
  have hzero : (zeroValue e).run P w = .ok zz w := by simp [zeroValue, typeInfo, z1, z4]
  have hc0 : CRel μ H (List.replicate (len * te.sz) .junk) ((Array.range (len * te.sz)).map (zz.cells[· % zz.cells.size]!)) := by
    refine ⟨by simp, fun j c hj => ?_⟩
    have hjl : j < len * te.sz := by
      rcases Nat.lt_or_ge j (len * te.sz) with h | h
      · exact h
      · simp [List.getElem?_eq_none (l := List.replicate (len * te.sz) LV.junk) (by simpa using h)] at hj
    refine ⟨_, made_get _ _ j hjl, ?_, ?_⟩
    · have hpos : 0 < zz.cells.size := by
        rw [hzl]
        rcases Nat.eq_zero_or_pos te.sz with h | h
        · rw [h] at hjl; simp at hjl
        · exact h
      have hm := Nat.mod_lt j hpos
      rw [getElem!_pos zz.cells _ hm]
      exact z7 _ (by rw [Array.mem_toList_iff]; exact Array.getElem_mem hm)
    · rw [List.getElem?_replicate] at hj
      split at hj <;> cases hj <;> trivial
  obtain ⟨cells, k1, k2⟩ := fill_sound (place' := fun i => some (i * te.sz, te.sz)) (fun _ _ h => h) hf hc0 hp
  obtain ⟨r1, r2⟩ := hR.made 0 e te.sz (cs := cs) (cur := cells) (by rw [k2.1]; exact Nat.le_refl _) k2.2
  have hcs : cells.size = len * te.sz := by
    have hal : ∀ (parts : List (Nat × LV)) (a b : List LV), afill (fun i => some (i * te.sz, te.sz)) a parts = some b → b.length = a.length := by
      intro parts
      induction parts with
      | nil => intro a b h; simp only [afill, Option.some.injEq] at h; rw [h]
      | cons p parts ih =>
        intro a b h
        obtain ⟨i, x⟩ := p
        simp only [afill] at h
        split at h
        · cases h
        · rw [ih _ _ h, sets_length]
    rw [← k2.1, hal _ _ _ hf]; simp
  have hrun : (Instr.buildSlice t len vparts).run P w = .ok (.slice (some ⟨w.heap.size, 0, none⟩) len len) ((w.drewN 0).alloc (.cells cells e)) := by
    have hle : ¬ (len * te.sz > 2 ^ 24) := by omega
    by_cases h0 : len * te.sz = 0
    · have k1' : Instr.fill (fun i => some (i * te.sz, te.sz)) #[] vparts.toList = some cells := by
        rw [h0] at k1; simpa [Array.range_zero'] using k1
      simp [Instr.buildSlice, run_underlying h1, hsz, h0, k1', newRow, Array.range_zero']
      rfl
    · simp [Instr.buildSlice, run_underlying h1, hsz, hle, h0, hzero, k1, newRow]
      rfl
  refine ⟨_, _, _, hrun, r1, r2, ?_⟩
  exact ⟨⟨0, false, e, te.sz, cs⟩, _, _, by simp, Nat.le_refl _, rfl, fun _ => ⟨Nat.le_refl _, fun _ => by simp [ad], (by intro k hk; cases hk), fun _ => ⟨fun _ => by simp [hcs], by simp [hcs]⟩⟩⟩

theorem makeSlice_sound {t e : Nat} {et te : TE} (hs : T t = some et) (htd : et.td = .slice e) (ht : T e = some te) (k1 k2 : IntKind) (l c : Int) (h0 : 0 ≤ l) (hlc : l ≤ c) (hc : c ≤ 17592186044416) (hb : te.by_ * c ≤ 140737488355328) :
    ∃ w' μ' v, (Instr.makeSlice t (.int k1 l) (.int k2 c)).run P w = .ok v w' ∧ Rep w0 μ' (H ++ [⟨0, false, e, te.sz, zeros te.zs c.toNat⟩]) w' ∧ Ext μ H μ' (H ++ [⟨0, false, e, te.sz, zeros te.zs c.toNat⟩]) ∧ TR μ' (H ++ [⟨0, false, e, te.sz, zeros te.zs c.toNat⟩]) (.sl H.length 0 0 l.toNat none) v := by
  obtain ⟨d, h1, h2⟩ := tab_und hT hs
  rw [htd] at h2
  have hd : d = .slice e := h2
  subst hd
  obtain ⟨i, zz, z1, z2, z3, z4, z5, z6, z7⟩ := tab_info hT ht
  have hzl : zz.cells.size = te.sz := by
    have := (z6 μ H).len
    have hl2 : zz.cells.toList.length = zz.cells.size := Array.length_toList
    omega
  have hrun := run_make (P := P) w t e i zz h1 z1 z4 k1 k2 l c h0 hlc (by rw [z3]; omega) (by omega)
  have hcur : madeCells zz.cells (c.toNat * i.size) = (Array.range (c.toNat * zz.cells.size)).map (zz.cells[· % zz.cells.size]!) := by rw [z2]; simp only [madeCells, hzl]
  rw [hcur] at hrun
  obtain ⟨r1, r2⟩ := hR.made 0 e te.sz (cs := zeros te.zs c.toNat) (cur := (Array.range (c.toNat * zz.cells.size)).map (zz.cells[· % zz.cells.size]!)) (by rw [zeros_length, z5, ← hzl]; simp) (zeros_rel (z6 μ H) z7 c.toNat)
  refine ⟨_, _, _, hrun, r1, r2, ?_⟩
  exact ⟨⟨0, false, e, te.sz, zeros te.zs c.toNat⟩, _, _, by simp, Nat.le_refl _, rfl, fun _ => ⟨by omega, fun _ => by simp [ad], (by intro k hk; cases hk), fun _ => ⟨fun _ => by simp [hzl], by simp [hzl]⟩⟩⟩
end
end Go.Proofs.Ytfofkebkcjkjeaa
