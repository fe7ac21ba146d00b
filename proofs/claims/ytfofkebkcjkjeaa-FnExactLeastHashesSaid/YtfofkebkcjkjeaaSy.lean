/- slices.Sort and slices.Compact at rows of int64, in the abstract machine: by the library's own contracts. -/
import Derived.Test.YtfofkebkcjkjeaaSx
import Derived.Test.YtfofkebkcjkjeaaUa
import Derived.Test.YtfofkebkcjkjeaaAx
namespace Go.Proofs.Ytfofkebkcjkjeaa
open Go.RowKit Go.Sort
set_option linter.unusedSimpArgs false
set_option linter.unusedVariables false
set_option maxRecDepth 100000

theorem put_heap (enc : Int → Value) (w : World) (q blk : Nat) (d : Array Int) (os : Array Obj) {cur : Array Value} {el : TypeId} (hb : w.heap[blk]? = some (.cells cur el (0, 0))) :
    (grow (putRow enc (Sort.ahead w q) blk 0 d) os).heap[blk]? = some (.cells (putCells enc 0 d cur) el (0, 0)) ∧ (∀ k, k < w.heap.size → k ≠ blk → (grow (putRow enc (Sort.ahead w q) blk 0 d) os).heap[k]? = w.heap[k]?) := by
  have hlt : blk < w.heap.size := by
    rcases Nat.lt_or_ge blk w.heap.size with h | h
    · exact h
    · simp [Array.getElem?_eq_none h] at hb
  have hs : (putRow enc (Sort.ahead w q) blk 0 d).heap.size = w.heap.size := by rw [size_putRow]; rfl
  refine ⟨?_, fun k hk hne => ?_⟩
  · rw [heap_grow_old _ _ (by rw [hs]; exact hlt)]
    unfold putRow mapBlock
    show ((Sort.ahead w q).heap.modify blk _)[blk]? = _
    rw [Array.getElem?_modify, if_pos rfl]
    have : (Sort.ahead w q).heap[blk]? = some (.cells cur el (0, 0)) := hb
    rw [this]; rfl
  · rw [heap_grow_old _ _ (by rw [hs]; exact hk)]
    unfold putRow mapBlock
    show ((Sort.ahead w q).heap.modify blk _)[k]? = _
    rw [Array.getElem?_modify, if_neg (Ne.symm hne)]
    rfl
theorem Rep.put {w0 w : World} {μ : Nat → Pl} {H : Hp} (hR : Rep w0 μ H w) {id ver el : Nat} {cs : List LV} (hi : H[id]? = some ⟨ver, false, el, 1, cs⟩) (hz : (μ id).size ≠ 0) (zs rest : List Int) (hl : (zs ++ rest).length ≤ (μ id).size) (q : Nat) (os : Array Obj) :
    Rep w0 μ (H.set id ⟨ver, false, el, 1, zs.map (LV.int .i64)⟩) (grow (putRow (Value.int .i64) (Sort.ahead w q) (μ id).b 0 (zs ++ rest).toArray) os) ∧ Ext μ H μ (H.set id ⟨ver, false, el, 1, zs.map (LV.int .i64)⟩) := by
  obtain ⟨k1, k2, k3, cur, k4, k5⟩ := hR.real hi rfl hz
  obtain ⟨p1, p2⟩ := put_heap (Value.int .i64) w q (μ id).b (zs ++ rest).toArray os k4
  have hlt := hR.lt hi rfl hz
  have hsz : w.heap.size ≤ (grow (putRow (Value.int .i64) (Sort.ahead w q) (μ id).b 0 (zs ++ rest).toArray) os).heap.size := by rw [size_grow, size_putRow]; exact Nat.le_add_right _ _
  have hbel : Below w0.heap.size w0 (grow (putRow (Value.int .i64) (Sort.ahead w q) (μ id).b 0 (zs ++ rest).toArray) os) :=
    hR.bel.trans ⟨rfl, rfl, rfl, hsz, fun k hk => p2 k (by have := hR.bel.size; omega) (by omega)⟩
  have hfun : (fun i => if i = id then μ id else μ i) = μ := by funext i; by_cases e : i = id <;> simp [e]
  have h := hR.turn (o' := ⟨ver, false, el, 1, zs.map (LV.int .i64)⟩) hi rfl rfl (Nat.le_refl _) rfl rfl (μ id) (fun _ => rfl) (Or.inr hbel)
    (fun k hk hor => p2 k hk (by rcases hor with h | h; exact h; exact absurd h hz)) (Or.inl ⟨rfl, rfl⟩) k2 (by simp only [List.length_map]; rw [List.length_append] at hl; omega)
    (Or.inr ⟨putCells (Value.int .i64) 0 (zs ++ rest).toArray cur, p1, by rw [← k5]; simp [putCells], fun j c hc => by
      rw [List.getElem?_map] at hc
      cases hzj : zs[j]? with
      | none => rw [hzj] at hc; cases hc
      | some x =>
        rw [hzj] at hc
        cases hc
        have hj : j < zs.length := by
          rcases Nat.lt_or_ge j zs.length with h | h
          · exact h
          · rw [List.getElem?_eq_none h] at hzj; cases hzj
        have hjl : j < (zs ++ rest).length := by rw [List.length_append]; omega
        refine ⟨.int .i64 x, ?_, rfl, rfl⟩
        have hjc : j < cur.size := by rw [k5]; omega
        unfold putCells
        rw [Array.getElem?_mapIdx, Array.getElem?_eq_getElem hjc]
        simp only [Option.map_some, Nat.zero_add, Nat.sub_zero, Nat.zero_le, true_and, List.size_toArray, if_pos hjl]
        congr 2
        rw [getElem!_pos _ j (by simpa using hjl)]
        simp only [List.getElem_toArray]
        rw [List.getElem_append_left hj]
        exact Option.some.inj ((List.getElem?_eq_getElem hj).symm.trans hzj)⟩)
  rw [hfun] at h
  exact h
theorem row_holds {w0 w : World} {μ : Nat → Pl} {H : Hp} (hR : Rep w0 μ H w) {id ver el : Nat} {xs : List Int} (hi : H[id]? = some ⟨ver, false, el, 1, xs.map (LV.int .i64)⟩) (hz : (μ id).size ≠ 0) : Holds (Value.int .i64) w (μ id).b 0 xs.toArray := by
  obtain ⟨k1, k2, k3, cur, k4, k5⟩ := hR.real hi rfl hz
  intro j hj
  simp only [List.size_toArray] at hj
  obtain ⟨v, c1, c2, c3⟩ := hR.cell id _ hi j (.int .i64 xs[j]) (by rw [List.getElem?_map, List.getElem?_eq_getElem hj]; rfl)
  have c3' : v = .int .i64 xs[j] := c3
  subst c3'
  refine ⟨?_, ?_⟩
  · rw [Nat.zero_add, getElem!_pos _ j (by simpa using hj)]
    simpa [ad, k2] using c1
  · simp [World.frozen?, k4]
theorem Sort_int64_c (id ver el n : Nat) (xs : List Int) (H : Hp) (ho : H[id]? = some ⟨ver, false, el, 1, xs.map (LV.int .i64)⟩) (hn : n = xs.length) (hl : xs.length ≤ 1048576) :
    FunH Try.prog 152 [.sl id ver 0 n none] H fun r H' => r = .tup [] ∧ H' = H.set id ⟨ver, false, el, 1, (srtI xs).map (LV.int .i64)⟩ := by
  subst hn
  intro w0 μ w cargs hR ha
  obtain ⟨v, rfl⟩ : ∃ v, cargs = #[v] := by
    have := ha.len
    obtain ⟨l⟩ := cargs
    match l, this with
    | [v], _ => exact ⟨v, rfl⟩
  obtain ⟨o, a, c, h1, h2, rfl, h3⟩ : BR μ H (.sl id ver 0 xs.length none) v := ha.1
  rw [ho] at h1
  cases h1
  obtain ⟨g1, g2, g3, g4⟩ := h3 rfl
  have hen : (callFunc 152 #[.slice a xs.length c]).run Try.prog w = .ok (.enter 152 #[.slice a xs.length c]) w := enter_of Try.func152 (by kernel_rfl) rfl _ w
  rw [hen]
  show Calls Try.prog 152 #[.slice a xs.length c] w _
  rcases Nat.eq_zero_or_pos xs.length with h0 | h0
  · have hx : xs = [] := List.eq_nil_of_length_eq_zero h0
    subst hx
    refine (AnyM.slices_Sort_int_none laysSort a c w).mono ?_
    rintro e w' ⟨rfl, rfl⟩
    have hn : srtI [] = [] := by simp [srtI]
    rw [hn]
    have hs : H.set id ⟨ver, false, el, 1, ([] : List Int).map (LV.int .i64)⟩ = H := set_self ho
    rw [hs]
    exact ⟨_, rfl, .tup [], μ, _, hR, ⟨_, rfl, trivial⟩, Ext.refl _ _, rfl, rfl⟩
  · obtain ⟨hc1, hc2⟩ := g4 rfl
    have hz : (μ id).size ≠ 0 := by have := hc1 rfl; simp only [Nat.zero_add, Nat.mul_one] at this; omega
    obtain ⟨k1, k2, k3, cur, k4, k5⟩ := hR.real ho rfl hz
    have ha2 : a = some ⟨(μ id).b, 0, none⟩ := by rw [g2 (by omega)]; simp [ad, k2]
    subst ha2
    refine (AnyM.slices_Sort_int laysSort (μ id).b 0 c xs w (row_holds hR ho hz) (hR.lt ho rfl hz) (by omega)).mono ?_
    rintro e w' ⟨rfl, q, os, rfl⟩
    have hp := hR.put ho hz (srtI xs) [] (by rw [List.append_nil, srtI_len]; simpa using k3) q os
    rw [List.append_nil] at hp
    exact ⟨_, rfl, .tup [], μ, _, hp.1, ⟨_, rfl, trivial⟩, hp.2, rfl, rfl⟩
theorem Compact_int64_c (id ver el n : Nat) (xs : List Int) (H : Hp) (ho : H[id]? = some ⟨ver, false, el, 1, xs.map (LV.int .i64)⟩) (hn : n = xs.length) (hl : xs.length ≤ 1048576) (hs : xs.Pairwise (· ≤ ·)) :
    FunH Try.prog 153 [.sl id ver 0 n none] H fun r H' => r = .sl id ver 0 (setU xs).length none ∧ H' = H.set id ⟨ver, false, el, 1, (setU xs).map (LV.int .i64)⟩ := by
  subst hn
  intro w0 μ w cargs hR ha
  obtain ⟨v, rfl⟩ : ∃ v, cargs = #[v] := by
    have := ha.len
    obtain ⟨l⟩ := cargs
    match l, this with
    | [v], _ => exact ⟨v, rfl⟩
  obtain ⟨o, a, c, h1, h2, rfl, h3⟩ : BR μ H (.sl id ver 0 xs.length none) v := ha.1
  rw [ho] at h1
  cases h1
  have h3' := h3
  obtain ⟨g1, g2, g3, g4⟩ := h3 rfl
  have hen : (callFunc 153 #[.slice a xs.length c]).run Try.prog w = .ok (.enter 153 #[.slice a xs.length c]) w := enter_of Try.func153 (by kernel_rfl) rfl _ w
  rw [hen]
  show Calls Try.prog 153 #[.slice a xs.length c] w _
  have hid : id < H.length := by
    rcases Nat.lt_or_ge id H.length with h' | h'
    · exact h'
    · rw [List.getElem?_eq_none h'] at ho; cases ho
  have hUl := setU_len xs
  rcases Nat.eq_zero_or_pos xs.length with h0 | h0
  · have hx : xs = [] := List.eq_nil_of_length_eq_zero h0
    subst hx
    refine (AnyG.slices_Compact_int_empty laysCompact a c w).mono ?_
    rintro e w' ⟨rfl, rfl⟩
    have hs : H.set id ⟨ver, false, el, 1, (setU []).map (LV.int .i64)⟩ = H := set_self ho
    exact ⟨_, rfl, .sl id ver 0 0 none, μ, H, hR, ⟨_, a, c, ho, h2, rfl, h3'⟩, Ext.refl _ _, rfl, hs.symm⟩
  · obtain ⟨hc1, hc2⟩ := g4 rfl
    have hz : (μ id).size ≠ 0 := by have := hc1 rfl; simp only [Nat.zero_add, Nat.mul_one] at this; omega
    obtain ⟨k1, k2, k3, cur, k4, k5⟩ := hR.real ho rfl hz
    have ha2 : a = some ⟨(μ id).b, 0, none⟩ := by rw [g2 (by omega)]; simp [ad, k2]
    subst ha2
    refine (AnyG.slices_Compact_int laysCompact (μ id).b 0 c xs w (row_holds hR ho hz) (by omega) g1).mono ?_
    rintro e w' ⟨rfl, q, rfl⟩
    rw [compact_setU hs]
    have hp := hR.put ho hz (setU xs) (List.replicate (xs.length - (setU xs).length) 0) (by rw [List.length_append, List.length_replicate]; simp only [List.length_map] at k3; omega) q #[]
    rw [grow_empty] at hp
    refine ⟨_, rfl, .sl id ver 0 (setU xs).length none, μ, _, hp.1, ⟨⟨ver, false, el, 1, (setU xs).map (LV.int .i64)⟩, _, c, by simp [hid], Nat.le_refl _, rfl, fun _ => ⟨by omega, g2, fun k hk => (by cases hk), fun _ => g4 rfl⟩⟩, hp.2, rfl, rfl⟩
end Go.Proofs.Ytfofkebkcjkjeaa
