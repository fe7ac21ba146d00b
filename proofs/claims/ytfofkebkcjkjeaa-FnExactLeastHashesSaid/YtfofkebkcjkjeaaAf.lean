/- The abstract machine's operations are sound: addresses, loads, stores, slices. -/
import Derived.Test.YtfofkebkcjkjeaaAe
namespace Go.Proofs.Ytfofkebkcjkjeaa
open Go.RowKit
set_option linter.unusedSimpArgs false
set_option linter.unusedVariables false

section
variable {P : Program} {T : Tab} (hT : TabOk P T) {w0 w : World} {μ : Nat → Pl} {H : Hp} (hR : Rep w0 μ H w)

theorem field_at {fields : Array Field} {fs : List (Nat × TypeId)} (h : fields.toList.map (fun f => (f.offset, f.type)) = fs) {i fo ft : Nat} (hf : fs[i]? = some (fo, ft)) :
    ∃ fl, fields[i]? = some fl ∧ fl.offset = fo ∧ fl.type = ft := by
  subst h
  rw [List.getElem?_map, Array.getElem?_toList] at hf
  cases hx : fields[i]? with
  | none => rw [hx] at hf; cases hf
  | some fl =>
    rw [hx] at hf
    simp only [Option.map_some, Option.some.injEq, Prod.mk.injEq] at hf
    exact ⟨fl, rfl, hf.1, hf.2⟩

include hT

theorem run_fieldAt {s : TypeId} {e te : TE} {fs : List (Nat × TypeId)} (hs : T s = some e) (htd : e.td = .struct fs) {i fo ft : Nat} (hf : fs[i]? = some (fo, ft)) (ht : T ft = some te) (hz : te.sz ≠ 0) (a : Addr) :
    (Instr.fieldAt s (.pointer (some a)) i).run P w = .ok (.pointer (some (a.add fo))) w := by
  obtain ⟨d, h1, h2⟩ := tab_und hT hs
  rw [htd] at h2
  obtain ⟨fields, rfl, h3⟩ := h2
  obtain ⟨fl, g1, g2, g3⟩ := field_at h3 hf
  subst g2
  subst g3
  have hsz := run_siz (w := w) hT ht
  simp [Instr.fieldAt, run_underlying h1, g1, Instr.sureAddr, fieldPlace, hsz, hz]

theorem run_indexAt_slice {t e : TypeId} {et te : TE} (hs : T t = some et) (htd : et.td = .slice e) (ht : T e = some te) (a : Addr) (n c : Nat) (k : IntKind) (i : Int) (h0 : 0 ≤ i) (hn : i < n) :
    (Instr.indexAt t (.slice (some a) n c) (.int k i)).run P w = .ok (.pointer (some (a.add (i.toNat * te.sz)))) w := by
  obtain ⟨d, h1, h2⟩ := tab_und hT hs
  rw [htd] at h2
  have hd : d = .slice e := h2
  subst hd
  have hsz := run_siz (w := w) hT ht
  simp [Instr.indexAt, asIntOf, run_underlying h1, hsz, h0, hn]

theorem run_indexAt_arr {t e : TypeId} {m : Nat} {et te : TE} (hs : T t = some et) (htd : et.td = .arr m e) (ht : T e = some te) (a : Addr) (k : IntKind) (i : Int) (h0 : 0 ≤ i) (hn : i < m) :
    (Instr.indexAt t (.pointer (some a)) (.int k i)).run P w = .ok (.pointer (some (a.add (i.toNat * te.sz)))) w := by
  obtain ⟨d, h1, h2⟩ := tab_und hT hs
  rw [htd] at h2
  have hd : d = .array m e := h2
  subst hd
  have hsz := run_siz (w := w) hT ht
  simp [Instr.indexAt, asIntOf, run_underlying h1, hsz, h0, hn, Instr.sureAddr]

theorem run_part {t : TypeId} {cs : List LV} {off : Nat} {x : LV} (h : partL T t cs off = some x) {vs : Array Value} (hv : All2 (BR μ H) cs vs.toList) :
    ∃ v, (part t vs off).run P w = .ok v w ∧ TR μ H x v := by
  unfold partL at h
  split at h
  · rename_i e ht
    have hsz := run_siz (w := w) hT ht
    have hag := run_agg (w := w) hT ht
    by_cases ha : e.td.agg = true
    · rw [if_pos ha] at h
      split at h
      · rename_i hl
        cases h
        refine ⟨_, by simp [part, hag, ha, hsz] <;> rfl, _, rfl, ?_⟩
        refine All2.of_get ?_ ?_
        · have := hv.len; simp at this ⊢; omega
        · intro j a b h1 h2
          rw [List.getElem?_take, List.getElem?_drop] at h1
          split at h1
          · rename_i hj
            obtain ⟨u, k1, k2⟩ := hv.get _ _ h1
            rw [Array.getElem?_toList, Array.getElem?_extract] at h2
            split at h2
            · rw [Array.getElem?_toList] at k1
              rw [k1] at h2; cases h2; exact k2
            · cases h2
          · cases h1
      · cases h
    · have ha' : e.td.agg = false := by simpa using ha
      rw [if_neg ha] at h
      obtain ⟨u, k1, k2⟩ := hv.get _ _ h
      rw [Array.getElem?_toList] at k1
      exact ⟨u, by simp [part, hag, ha', k1], TR.of_BR k2⟩
  · cases h

theorem run_field {s : TypeId} {e : TE} {fs : List (Nat × TypeId)} (hs : T s = some e) (htd : e.td = .struct fs) {i fo ft : Nat} (hf : fs[i]? = some (fo, ft)) {cs : List LV} {x : LV} (h : partL T ft cs fo = some x)
    {vs : Array Value} (hv : All2 (BR μ H) cs vs.toList) : ∃ v, (Instr.field s (.agg vs) i).run P w = .ok v w ∧ TR μ H x v := by
  obtain ⟨d, h1, h2⟩ := tab_und hT hs
  rw [htd] at h2
  obtain ⟨fields, rfl, h3⟩ := h2
  obtain ⟨fl, g1, g2, g3⟩ := field_at h3 hf
  subst g2
  subst g3
  obtain ⟨v, k1, k2⟩ := run_part hT (w := w) h hv
  exact ⟨v, by simp [Instr.field, run_underlying h1, g1, asAgg, k1], k2⟩

theorem run_index_arr {t e : TypeId} {m : Nat} {et te : TE} (hs : T t = some et) (htd : et.td = .arr m e) (ht : T e = some te) (k : IntKind) (i : Int) (h0 : 0 ≤ i) (hn : i < m) {cs : List LV} {x : LV} (h : partL T e cs (i.toNat * te.sz) = some x)
    {vs : Array Value} (hv : All2 (BR μ H) cs vs.toList) : ∃ v, (Instr.index t (.agg vs) (.int k i)).run P w = .ok v w ∧ TR μ H x v := by
  obtain ⟨d, h1, h2⟩ := tab_und hT hs
  rw [htd] at h2
  have hd : d = .array m e := h2
  subst hd
  have hsz := run_siz (w := w) hT ht
  obtain ⟨v, k1, k2⟩ := run_part hT (w := w) h hv
  exact ⟨v, by simp [Instr.index, asIntOf, run_underlying h1, hsz, h0, hn, k1], k2⟩

include hR

theorem run_loadAt {t : TypeId} {te : TE} (ht : T t = some te) {id ver off : Nat} {v : Value} (hv : BR μ H (.ptr id ver off) v) {x : LV} {H' : Hp}
    (h : (if te.td.agg then (hgets H id ver off te.sz).map fun cs => (LV.agg cs, H) else (hget H id ver off).map (·, H)) = some (x, H')) :
    H' = H ∧ ∃ u, (Instr.loadAt t v).run P w = .ok u w ∧ TR μ H x u := by
  have hag := run_agg (w := w) hT ht
  have hsz := run_siz (w := w) hT ht
  by_cases ha : te.td.agg = true
  · rw [if_pos ha] at h
    simp only [Option.map_eq_some_iff, Prod.mk.injEq] at h
    obtain ⟨cs, h1, rfl, rfl⟩ := h
    obtain ⟨o, g1, g2, g3, g4, us, g5, g6, g7, g8⟩ := hgets_sound hR h1
    obtain ⟨o', a, k1, k2, rfl, k3⟩ := hv
    rw [g1] at k1; cases k1
    have ha' := k3 g2.symm
    subst ha'
    refine ⟨rfl, .agg us.toArray, ?_, us.toArray, rfl, by simpa using g7⟩
    have hl := run_loadCells_list (P := P) w (ad (μ id) off) us g6
    rw [g5] at hl
    simp [Instr.loadAt, Instr.sureAddr, loadVar, hag, ha, hsz, hl]
  · have ha' : te.td.agg = false := by simpa using ha
    rw [if_neg ha] at h
    simp only [Option.map_eq_some_iff, Prod.mk.injEq] at h
    obtain ⟨c, h1, rfl, rfl⟩ := h
    obtain ⟨rfl, u, g1, g2, g3⟩ := hget_sound hR h1 hv
    exact ⟨rfl, u, by simp [Instr.loadAt, Instr.sureAddr, loadVar, hag, ha', g1], TR.of_BR g3⟩

theorem run_storeAt {t : TypeId} {te : TE} (ht : T t = some te) {id ver off : Nat} {v u : Value} (hv : BR μ H (.ptr id ver off) v) {x : LV} (hx : TR μ H x u) {H' : Hp}
    (hl : (cellsL x).length = te.sz) (hs : (cellsL x).all LV.isCell = true) (h : hput H id ver off (cellsL x) = some H') :
    ∃ w', (Instr.storeAt t v u).run P w = .ok () w' ∧ Rep w0 μ H' w' ∧ Ext μ H μ H' := by
  have hsz := run_siz (w := w) hT ht
  have hc := cells_of_cell hx hs
  obtain ⟨w', h1, h2, h3, o, g1, g2⟩ := hput_sound (P := P) hR h hc hs
  obtain ⟨o', a, k1, k2, rfl, k3⟩ := hv
  rw [g1] at k1; cases k1
  have ha' := k3 g2.symm
  subst ha'
  have hlen : u.cells.size = te.sz := by have := hc.len; have e : u.cells.toList.length = u.cells.size := Array.length_toList; omega
  exact ⟨w', by simp [Instr.storeAt, Instr.sureAddr, storeVar, hsz, hlen, h1], h2, h3⟩

omit hT hR in
/-- A pointer to a new object. -/
theorem BR_newptr (p : Pl) (hoff : p.off = 0) (o : AO) (h0 : o.ver = 0) : BR (fun i => if i = H.length then p else μ i) (H ++ [o]) (.ptr H.length 0 0) (.pointer (some ⟨p.b, 0, none⟩)) :=
  ⟨o, _, by simp, Nat.zero_le _, rfl, fun _ => by simp [ad, hoff]⟩

theorem run_newVar_zero {t : TypeId} {te : TE} (ht : T t = some te) :
    ∃ w' μ', (Instr.alloc t true (.tuple #[])).run P w = .ok (.pointer (some ⟨w.heap.size, 0, none⟩)) w' ∧ Rep w0 μ' (H ++ [⟨0, false, t, te.sz, te.zs⟩]) w' ∧ Ext μ H μ' (H ++ [⟨0, false, t, te.sz, te.zs⟩]) ∧
      BR μ' (H ++ [⟨0, false, t, te.sz, te.zs⟩]) (.ptr H.length 0 0) (.pointer (some ⟨w.heap.size, 0, none⟩)) := by
  obtain ⟨i, z, h1, h2, h3, h4, h5, h6, h7⟩ := tab_info hT ht
  have hl := (h6 μ H).len
  rw [Array.length_toList] at hl
  obtain ⟨r1, r2⟩ := hR.made 0 t te.sz (cs := te.zs) (cur := z.cells) (by omega) (fun j c hc => by
    obtain ⟨v, k1, k2⟩ := (h6 μ H).get j c hc
    exact ⟨v, by rw [← Array.getElem?_toList]; exact k1, h7 v (List.mem_of_getElem? k1), k2⟩)
  refine ⟨_, _, ?_, r1, r2, BR_newptr _ rfl _ rfl⟩
  simp [Instr.alloc, zeroValue, typeInfo, h1, h4, newVar, newRow]
  rfl

omit hT in
theorem run_box {t : TypeId} {x : LV} {v : Value} (hx : TR μ H x v) (hs : (cellsL x).all LV.isCell = true) :
    ∃ w' μ', (Instr.box t v).run P w = .ok (.pointer (some ⟨w.heap.size, 0, none⟩)) w' ∧ Rep w0 μ' (H ++ [⟨0, false, t, (cellsL x).length, cellsL x⟩]) w' ∧ Ext μ H μ' (H ++ [⟨0, false, t, (cellsL x).length, cellsL x⟩]) ∧
      BR μ' (H ++ [⟨0, false, t, (cellsL x).length, cellsL x⟩]) (.ptr H.length 0 0) (.pointer (some ⟨w.heap.size, 0, none⟩)) := by
  have hc := cells_of_cell hx hs
  have hl := hc.len
  have hl2 : v.cells.toList.length = v.cells.size := Array.length_toList
  obtain ⟨r1, r2⟩ := hR.made 0 t (cellsL x).length (cs := cellsL x) (cur := v.cells) (by omega) (fun j c hj => by
    obtain ⟨v, k1, k2⟩ := hc.get j c hj
    exact ⟨v, by rw [← Array.getElem?_toList]; exact k1, hc.one hs v (List.mem_of_getElem? k1), k2⟩)
  exact ⟨_, _, by simp [Instr.box, newVar, newRow] <;> rfl, r1, r2, BR_newptr _ rfl _ rfl⟩
end
end Go.Proofs.Ytfofkebkcjkjeaa
