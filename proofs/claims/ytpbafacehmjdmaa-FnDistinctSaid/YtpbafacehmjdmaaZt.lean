/- Texts Ua, Sy, Ta, Tg, Tb, Tc of the abstract machine and its laws, in one. -/
import Derived.Test.YtpbafacehmjdmaaZp
import Derived.Lib.SlicesCompact
import Derived.Test.YtpbafacehmjdmaaSx
import Derived.Test.YtpbafacehmjdmaaZn
import Derived.Test.YtpbafacehmjdmaaDb
import Derived.Test.YtpbafacehmjdmaaZo
namespace Go.Proofs.Ytpbafacehmjdmaa
set_option linter.unusedSimpArgs false
set_option linter.unusedVariables false

/-- Ascending, no two alike. -/
def Inc (L : List Int) : Prop := L.Pairwise (· < ·)
def insU (x : Int) : List Int → List Int
  | [] => [x]
  | a :: r => if x < a then x :: a :: r else if x = a then a :: r else a :: insU x r
theorem insU_mem (x : Int) : ∀ (L : List Int) (y : Int), y ∈ insU x L ↔ y = x ∨ y ∈ L
  | [], y => by simp [insU]
  | a :: r, y => by
    unfold insU
    split
    · simp
    · split
      · rename_i h; subst h; simp
      · simp only [List.mem_cons, insU_mem x r y]; constructor
        · rintro (h | h | h) <;> simp [h]
        · rintro (h | h | h) <;> simp [h]
theorem insU_inc (x : Int) : ∀ {L : List Int}, Inc L → Inc (insU x L)
  | [], _ => by simp [insU, Inc]
  | a :: r, h => by
    unfold Inc at h ⊢
    have h1 := List.pairwise_cons.1 h
    unfold insU
    split
    · refine List.pairwise_cons.2 ⟨fun y hy => ?_, h⟩
      rcases List.mem_cons.1 hy with rfl | hy
      · assumption
      · have := h1.1 y hy; omega
    · split
      · exact h
      · refine List.pairwise_cons.2 ⟨fun y hy => ?_, insU_inc x h1.2⟩
        rcases (insU_mem x r y).1 hy with rfl | hy
        · omega
        · exact h1.1 y hy
theorem insU_in {x : Int} {L : List Int} (h : Inc L) (hx : x ∈ L) : insU x L = L := by
  induction L with
  | nil => cases hx
  | cons a r ih =>
    have h1 := List.pairwise_cons.1 h
    unfold insU
    rcases List.mem_cons.1 hx with rfl | hx
    · rw [if_neg (by omega), if_pos rfl]
    · have := h1.1 x hx
      rw [if_neg (by omega), if_neg (by omega), ih h1.2 hx]
theorem insU_len (x : Int) : ∀ (L : List Int), (insU x L).length ≤ L.length + 1
  | [] => by simp [insU]
  | a :: r => by
    have := insU_len x r
    unfold insU
    split
    · simp
    · split
      · simp
      · simpa using this
theorem Inc.ext : ∀ {L M : List Int}, Inc L → Inc M → (∀ y, y ∈ L ↔ y ∈ M) → L = M
  | [], [], _, _, _ => rfl
  | [], b :: M, _, _, h => absurd ((h b).2 (by simp)) (by simp)
  | a :: L, [], _, _, h => absurd ((h a).1 (by simp)) (by simp)
  | a :: L, b :: M, hL, hM, h => by
    have hL1 := List.pairwise_cons.1 hL
    have hM1 := List.pairwise_cons.1 hM
    have hab : a = b := by
      have h1 := (h a).1 (by simp)
      have h2 := (h b).2 (by simp)
      rcases List.mem_cons.1 h1 with h1 | h1
      · exact h1
      · rcases List.mem_cons.1 h2 with h2 | h2
        · exact h2.symm
        · have := hL1.1 b h2; have := hM1.1 a h1; omega
    subst hab
    congr 1
    refine Inc.ext hL1.2 hM1.2 fun y => ?_
    have hy := h y
    constructor
    · intro h1
      have h3 := hL1.1 y h1
      rcases List.mem_cons.1 (hy.1 (List.mem_cons_of_mem _ h1)) with h2 | h2
      · omega
      · exact h2
    · intro h1
      have h3 := hM1.1 y h1
      rcases List.mem_cons.1 (hy.2 (List.mem_cons_of_mem _ h1)) with h2 | h2
      · omega
      · exact h2
theorem Inc.take {L : List Int} (h : Inc L) (n : Nat) : Inc (L.take n) := List.Pairwise.sublist (List.take_sublist n L) h
theorem insU_take (x : Int) : ∀ (L : List Int) (n : Nat), Inc L → (insU x (L.take n)).take n = (insU x L).take n
  | [], n, _ => by simp
  | a :: r, 0, _ => by simp
  | a :: r, n + 1, h => by
    have h1 := List.pairwise_cons.1 h
    rw [List.take_succ_cons]
    unfold insU
    split
    · rw [List.take_succ_cons, List.take_succ_cons]
      congr 1
      rw [← List.take_succ_cons, List.take_take, Nat.min_eq_left (by omega)]
    · split
      · rw [List.take_succ_cons, List.take_succ_cons, List.take_take, Nat.min_self]
      · rw [List.take_succ_cons, List.take_succ_cons, insU_take x r n h1.2]
/-- All of a list, in order, each but once. -/
def setU (xs : List Int) : List Int := xs.foldl (fun L x => insU x L) []
theorem foldU_inc : ∀ (xs L : List Int), Inc L → Inc (xs.foldl (fun L x => insU x L) L)
  | [], L, h => h
  | x :: xs, L, h => foldU_inc xs _ (insU_inc x h)
theorem foldU_mem : ∀ (xs L : List Int) (y : Int), y ∈ xs.foldl (fun L x => insU x L) L ↔ y ∈ xs ∨ y ∈ L
  | [], L, y => by simp
  | x :: xs, L, y => by
    rw [List.foldl_cons, foldU_mem xs _ y, insU_mem]
    simp only [List.mem_cons]
    constructor
    · rintro (h | h | h) <;> simp [h]
    · rintro ((h | h) | h) <;> simp [h]
theorem setU_inc (xs : List Int) : Inc (setU xs) := foldU_inc xs [] List.Pairwise.nil
theorem setU_mem (xs : List Int) (y : Int) : y ∈ setU xs ↔ y ∈ xs := by unfold setU; rw [foldU_mem]; simp
theorem setU_snoc (xs : List Int) (x : Int) : setU (xs ++ [x]) = insU x (setU xs) := by unfold setU; rw [List.foldl_append]; rfl
theorem setU_unique {xs L : List Int} (h : Inc L) (hm : ∀ y, y ∈ L ↔ y ∈ xs) : L = setU xs := Inc.ext h (setU_inc xs) fun y => by rw [hm, setU_mem]
theorem setU_len (xs : List Int) : (setU xs).length ≤ xs.length := by
  have : ∀ (xs L : List Int), (xs.foldl (fun L x => insU x L) L).length ≤ xs.length + L.length := by
    intro xs
    induction xs with
    | nil => intro L; simp
    | cons x xs ih =>
      intro L
      have h1 := ih (insU x L)
      have h2 := insU_len x L
      simp only [List.foldl_cons, List.length_cons]
      omega
  simpa [setU] using this xs []
/-- Runs of the same left as one. -/
def cmpct : List Int → List Int
  | [] => []
  | [a] => [a]
  | a :: b :: r => if a = b then cmpct (b :: r) else a :: cmpct (b :: r)
theorem cmpct_mem : ∀ (L : List Int) (y : Int), y ∈ cmpct L ↔ y ∈ L
  | [], y => by simp [cmpct]
  | [a], y => by simp [cmpct]
  | a :: b :: r, y => by
    unfold cmpct
    split
    · rename_i h
      rw [cmpct_mem (b :: r) y]
      subst h
      simp
    · rw [List.mem_cons, cmpct_mem (b :: r) y, List.mem_cons (b := a)]
theorem cmpct_inc : ∀ {L : List Int}, L.Pairwise (· ≤ ·) → Inc (cmpct L)
  | [], _ => List.Pairwise.nil
  | [a], _ => by simp [cmpct, Inc]
  | a :: b :: r, h => by
    have h1 := List.pairwise_cons.1 h
    have h2 := List.pairwise_cons.1 h1.2
    have ih := cmpct_inc h1.2
    unfold cmpct
    split
    · exact ih
    · rename_i hne
      refine List.pairwise_cons.2 ⟨fun y hy => ?_, ih⟩
      rw [cmpct_mem] at hy
      have hb := h1.1 b (by simp)
      rcases List.mem_cons.1 hy with rfl | hy
      · omega
      · have := h2.1 y hy; omega
theorem cmpct_len : ∀ (L : List Int), (cmpct L).length ≤ L.length
  | [] => Nat.le_refl _
  | [a] => Nat.le_refl _
  | a :: b :: r => by
    have ih := cmpct_len (b :: r)
    unfold cmpct
    split
    · simp only [List.length_cons] at ih ⊢; omega
    · simp only [List.length_cons] at ih ⊢; omega
/-- In order. -/
def srtI (xs : List Int) : List Int := xs.mergeSort fun x y => decide (x ≤ y)
theorem srtI_perm (xs : List Int) : (srtI xs).Perm xs := List.mergeSort_perm ..
theorem srtI_len (xs : List Int) : (srtI xs).length = xs.length := (srtI_perm xs).length_eq
theorem srtI_asc (xs : List Int) : (srtI xs).Pairwise (· ≤ ·) := by
  have := List.pairwise_mergeSort (le := fun x y : Int => decide (x ≤ y)) (fun a b c h1 h2 => by simp only [decide_eq_true_eq] at *; omega) (fun a b => by simp only [Bool.or_eq_true, decide_eq_true_eq]; omega) xs
  exact this.imp fun h => by simpa using h
theorem cmpct_srt (xs : List Int) : cmpct (srtI xs) = setU xs := setU_unique (cmpct_inc (srtI_asc xs)) fun y => by rw [cmpct_mem]; exact (srtI_perm xs).mem_iff
/-- No two alike. -/
def difB (xs : List Int) : Bool := decide ((setU xs).length = xs.length)
theorem insU_len_in {x : Int} {L : List Int} (h : Inc L) : (insU x L).length = if x ∈ L then L.length else L.length + 1 := by
  split
  · rename_i hx; rw [insU_in h hx]
  · rename_i hx
    induction L with
    | nil => rfl
    | cons a r ih =>
      have h1 := List.pairwise_cons.1 h
      simp only [List.mem_cons, not_or] at hx
      unfold insU
      split
      · rfl
      · rw [if_neg hx.1, List.length_cons, ih h1.2 hx.2]; rfl
theorem difB_snoc (xs : List Int) (x : Int) : difB (xs ++ [x]) = (difB xs && !xs.contains x) := by
  unfold difB
  rw [setU_snoc, insU_len_in (setU_inc xs), List.length_append]
  have := setU_len xs
  by_cases hx : x ∈ xs
  · rw [if_pos ((setU_mem xs x).2 hx)]
    have : xs.contains x = true := by simpa using hx
    rw [this]
    simp
    omega
  · rw [if_neg (fun h => hx ((setU_mem xs x).1 h))]
    have h2 : xs.contains x = false := by simpa using hx
    rw [h2]
    simp
theorem difB_nil : difB [] = true := rfl
theorem compact_setU {xs : List Int} (hs : xs.Pairwise (· ≤ ·)) : Go.Lib.compact xs = setU xs := by
  have hget : ∀ j, j < xs.length → xs.toArray[j]! = xs[j]! := fun j hj => by simp
  have hle : ∀ i j, i ≤ j → j < xs.length → xs.toArray[i]! ≤ xs.toArray[j]! := fun i j hij hj => by
    rw [hget i (by omega), hget j hj, getElem!_pos xs i (by omega), getElem!_pos xs j hj]
    rcases Nat.lt_or_eq_of_le hij with h | h
    · exact List.pairwise_iff_getElem.1 hs i j (by omega) hj h
    · subst h; exact Int.le_refl _
  refine setU_unique ?_ fun y => ?_
  · unfold Go.Lib.compact Go.Lib.compactUpTo Inc
    rw [List.pairwise_map, List.pairwise_filter]
    refine List.Pairwise.imp_of_mem ?_ (List.pairwise_lt_range (n := xs.length))
    intro i j hi hj hij k1 k2
    rw [List.mem_range] at hi hj
    unfold Go.Lib.keeps at k2
    simp only [decide_eq_true_eq] at k2
    rcases k2 with k2 | k2
    · omega
    · have h1 := hle i (j - 1) (by omega) (by omega)
      have h2 := hle (j - 1) j (by omega) hj
      omega
  · unfold Go.Lib.compact Go.Lib.compactUpTo
    rw [List.mem_map]
    constructor
    · rintro ⟨j, hj, rfl⟩
      have hj2 := List.mem_range.1 (List.mem_filter.1 hj).1
      rw [hget j hj2, getElem!_pos xs j hj2]
      exact List.getElem_mem hj2
    · intro hy
      obtain ⟨j, hj, rfl⟩ := List.getElem_of_mem hy
      induction j with
      | zero => exact ⟨0, List.mem_filter.2 ⟨List.mem_range.2 hj, by simp [Go.Lib.keeps]⟩, by rw [hget 0 hj, getElem!_pos xs 0 hj]⟩
      | succ j ih =>
        by_cases hk : Go.Lib.keeps xs.toArray (j + 1) = true
        · exact ⟨j + 1, List.mem_filter.2 ⟨List.mem_range.2 hj, hk⟩, by rw [hget _ hj, getElem!_pos xs _ hj]⟩
        · obtain ⟨m, h1, h2⟩ := ih (by omega) (List.getElem_mem _)
          refine ⟨m, h1, h2.trans ?_⟩
          unfold Go.Lib.keeps at hk
          simp only [decide_eq_true_eq, not_or, ne_eq, Decidable.not_not] at hk
          have h3 := hk.2
          rw [hget _ hj, hget (j + 1 - 1) (by omega), getElem!_pos xs _ hj, getElem!_pos xs _ (show j + 1 - 1 < xs.length by omega)] at h3
          exact h3.symm
end Go.Proofs.Ytpbafacehmjdmaa

namespace Go.Proofs.Ytpbafacehmjdmaa
open Go.RowKit Go.Sort
set_option linter.unusedSimpArgs false
set_option linter.unusedVariables false
set_option maxRecDepth 100000

theorem put_heap (enc : Int → Value) (w : World) (q blk : Nat) (d : Array Int) (os : Array Obj) {cur : Array Value} {el : TypeId} (hb : w.heap[blk]? = some (.cells cur el (0, 0))) :
    (grow (putRow enc (Sort.ahead w q) blk 0 d) os).heap[blk]? = some (.cells (putCells enc 0 d cur) el (0, 0)) ∧ (∀ k, k < w.heap.size → k ≠ blk → (grow (putRow enc (Sort.ahead w q) blk 0 d) os).heap[k]? = w.heap[k]?) := by
  have hlt : blk < w.heap.size := by
    rcases Nat.lt_or_ge blk w.heap.size with h | h
    · exact h
    · simp [Array.getElem?_eq_none h] at hb
  have hs : (putRow enc (Sort.ahead w q) blk 0 d).heap.size = w.heap.size := by rw [size_putRow]; rfl
  refine ⟨?_, fun k hk hne => ?_⟩
  · rw [heap_grow_old _ _ (by rw [hs]; exact hlt)]
    unfold putRow mapBlock
    show ((Sort.ahead w q).heap.modify blk _)[blk]? = _
    rw [Array.getElem?_modify, if_pos rfl]
    have : (Sort.ahead w q).heap[blk]? = some (.cells cur el (0, 0)) := hb
    rw [this]; rfl
  · rw [heap_grow_old _ _ (by rw [hs]; exact hk)]
    unfold putRow mapBlock
    show ((Sort.ahead w q).heap.modify blk _)[k]? = _
    rw [Array.getElem?_modify, if_neg (Ne.symm hne)]
    rfl
theorem Rep.put {w0 w : World} {μ : Nat → Pl} {H : Hp} (hR : Rep w0 μ H w) {id ver el : Nat} {cs : List LV} (hi : H[id]? = some ⟨ver, false, el, 1, cs⟩) (hz : (μ id).size ≠ 0) (zs rest : List Int) (hl : (zs ++ rest).length ≤ (μ id).size) (q : Nat) (os : Array Obj) :
    Rep w0 μ (H.set id ⟨ver, false, el, 1, zs.map (LV.int .i64)⟩) (grow (putRow (Value.int .i64) (Sort.ahead w q) (μ id).b 0 (zs ++ rest).toArray) os) ∧ Ext μ H μ (H.set id ⟨ver, false, el, 1, zs.map (LV.int .i64)⟩) := by
  obtain ⟨k1, k2, k3, cur, k4, k5⟩ := hR.real hi rfl hz
  obtain ⟨p1, p2⟩ := put_heap (Value.int .i64) w q (μ id).b (zs ++ rest).toArray os k4
  have hlt := hR.lt hi rfl hz
  have hsz : w.heap.size ≤ (grow (putRow (Value.int .i64) (Sort.ahead w q) (μ id).b 0 (zs ++ rest).toArray) os).heap.size := by rw [size_grow, size_putRow]; exact Nat.le_add_right _ _
  have hbel : Below w0.heap.size w0 (grow (putRow (Value.int .i64) (Sort.ahead w q) (μ id).b 0 (zs ++ rest).toArray) os) :=
    hR.bel.trans ⟨rfl, rfl, rfl, hsz, fun k hk => p2 k (by have := hR.bel.size; omega) (by omega)⟩
  have hfun : (fun i => if i = id then μ id else μ i) = μ := by funext i; by_cases e : i = id <;> simp [e]
  have h := hR.turn (o' := ⟨ver, false, el, 1, zs.map (LV.int .i64)⟩) hi rfl rfl (Nat.le_refl _) rfl rfl (μ id) (fun _ => rfl) (Or.inr hbel)
    (fun k hk hor => p2 k hk (by rcases hor with h | h; exact h; exact absurd h hz)) (Or.inl ⟨rfl, rfl⟩) k2 (by simp only [List.length_map]; rw [List.length_append] at hl; omega)
    (Or.inr ⟨putCells (Value.int .i64) 0 (zs ++ rest).toArray cur, p1, by rw [← k5]; simp [putCells], fun j c hc => by
      rw [List.getElem?_map] at hc
      cases hzj : zs[j]? with
      | none => rw [hzj] at hc; cases hc
      | some x =>
        rw [hzj] at hc
        cases hc
        have hj : j < zs.length := by
          rcases Nat.lt_or_ge j zs.length with h | h
          · exact h
          · rw [List.getElem?_eq_none h] at hzj; cases hzj
        have hjl : j < (zs ++ rest).length := by rw [List.length_append]; omega
        refine ⟨.int .i64 x, ?_, rfl, rfl⟩
        have hjc : j < cur.size := by rw [k5]; omega
        unfold putCells
        rw [Array.getElem?_mapIdx, Array.getElem?_eq_getElem hjc]
        simp only [Option.map_some, Nat.zero_add, Nat.sub_zero, Nat.zero_le, true_and, List.size_toArray, if_pos hjl]
        congr 2
        rw [getElem!_pos _ j (by simpa using hjl)]
        simp only [List.getElem_toArray]
        rw [List.getElem_append_left hj]
        exact Option.some.inj ((List.getElem?_eq_getElem hj).symm.trans hzj)⟩)
  rw [hfun] at h
  exact h
theorem row_holds {w0 w : World} {μ : Nat → Pl} {H : Hp} (hR : Rep w0 μ H w) {id ver el : Nat} {xs : List Int} (hi : H[id]? = some ⟨ver, false, el, 1, xs.map (LV.int .i64)⟩) (hz : (μ id).size ≠ 0) : Holds (Value.int .i64) w (μ id).b 0 xs.toArray := by
  obtain ⟨k1, k2, k3, cur, k4, k5⟩ := hR.real hi rfl hz
  intro j hj
  simp only [List.size_toArray] at hj
  obtain ⟨v, c1, c2, c3⟩ := hR.cell id _ hi j (.int .i64 xs[j]) (by rw [List.getElem?_map, List.getElem?_eq_getElem hj]; rfl)
  have c3' : v = .int .i64 xs[j] := c3
  subst c3'
  refine ⟨?_, ?_⟩
  · rw [Nat.zero_add, getElem!_pos _ j (by simpa using hj)]
    simpa [ad, k2] using c1
  · simp [World.frozen?, k4]
theorem Sort_int64_c (id ver el n : Nat) (xs : List Int) (H : Hp) (ho : H[id]? = some ⟨ver, false, el, 1, xs.map (LV.int .i64)⟩) (hn : n = xs.length) (hl : xs.length ≤ 1048576) :
    FunH Try.prog 47 [.sl id ver 0 n none] H fun r H' => r = .tup [] ∧ H' = H.set id ⟨ver, false, el, 1, (srtI xs).map (LV.int .i64)⟩ := by
  subst hn
  intro w0 μ w cargs hR ha
  obtain ⟨v, rfl⟩ : ∃ v, cargs = #[v] := by
    have := ha.len
    obtain ⟨l⟩ := cargs
    match l, this with
    | [v], _ => exact ⟨v, rfl⟩
  obtain ⟨o, a, c, h1, h2, rfl, h3⟩ : BR μ H (.sl id ver 0 xs.length none) v := ha.1
  rw [ho] at h1
  cases h1
  obtain ⟨g1, g2, g3, g4⟩ := h3 rfl
  have hen : (callFunc 47 #[.slice a xs.length c]).run Try.prog w = .ok (.enter 47 #[.slice a xs.length c]) w := enter_of Try.func47 (by kernel_rfl) rfl _ w
  rw [hen]
  show Calls Try.prog 47 #[.slice a xs.length c] w _
  rcases Nat.eq_zero_or_pos xs.length with h0 | h0
  · have hx : xs = [] := List.eq_nil_of_length_eq_zero h0
    subst hx
    refine (AnyM.slices_Sort_int_none laysSort a c w).mono ?_
    rintro e w' ⟨rfl, rfl⟩
    have hn : srtI [] = [] := by simp [srtI]
    rw [hn]
    have hs : H.set id ⟨ver, false, el, 1, ([] : List Int).map (LV.int .i64)⟩ = H := set_self ho
    rw [hs]
    exact ⟨_, rfl, .tup [], μ, _, hR, ⟨_, rfl, trivial⟩, Ext.refl _ _, rfl, rfl⟩
  · obtain ⟨hc1, hc2⟩ := g4 rfl
    have hz : (μ id).size ≠ 0 := by have := hc1 rfl; simp only [Nat.zero_add, Nat.mul_one] at this; omega
    obtain ⟨k1, k2, k3, cur, k4, k5⟩ := hR.real ho rfl hz
    have ha2 : a = some ⟨(μ id).b, 0, none⟩ := by rw [g2 (by omega)]; simp [ad, k2]
    subst ha2
    refine (AnyM.slices_Sort_int laysSort (μ id).b 0 c xs w (row_holds hR ho hz) (hR.lt ho rfl hz) (by omega)).mono ?_
    rintro e w' ⟨rfl, q, os, rfl⟩
    have hp := hR.put ho hz (srtI xs) [] (by rw [List.append_nil, srtI_len]; simpa using k3) q os
    rw [List.append_nil] at hp
    exact ⟨_, rfl, .tup [], μ, _, hp.1, ⟨_, rfl, trivial⟩, hp.2, rfl, rfl⟩
theorem Compact_int64_c (id ver el n : Nat) (xs : List Int) (H : Hp) (ho : H[id]? = some ⟨ver, false, el, 1, xs.map (LV.int .i64)⟩) (hn : n = xs.length) (hl : xs.length ≤ 1048576) (hs : xs.Pairwise (· ≤ ·)) :
    FunH Try.prog 48 [.sl id ver 0 n none] H fun r H' => r = .sl id ver 0 (setU xs).length none ∧ H' = H.set id ⟨ver, false, el, 1, (setU xs).map (LV.int .i64)⟩ := by
  subst hn
  intro w0 μ w cargs hR ha
  obtain ⟨v, rfl⟩ : ∃ v, cargs = #[v] := by
    have := ha.len
    obtain ⟨l⟩ := cargs
    match l, this with
    | [v], _ => exact ⟨v, rfl⟩
  obtain ⟨o, a, c, h1, h2, rfl, h3⟩ : BR μ H (.sl id ver 0 xs.length none) v := ha.1
  rw [ho] at h1
  cases h1
  have h3' := h3
  obtain ⟨g1, g2, g3, g4⟩ := h3 rfl
  have hen : (callFunc 48 #[.slice a xs.length c]).run Try.prog w = .ok (.enter 48 #[.slice a xs.length c]) w := enter_of Try.func48 (by kernel_rfl) rfl _ w
  rw [hen]
  show Calls Try.prog 48 #[.slice a xs.length c] w _
  have hid : id < H.length := by
    rcases Nat.lt_or_ge id H.length with h' | h'
    · exact h'
    · rw [List.getElem?_eq_none h'] at ho; cases ho
  have hUl := setU_len xs
  rcases Nat.eq_zero_or_pos xs.length with h0 | h0
  · have hx : xs = [] := List.eq_nil_of_length_eq_zero h0
    subst hx
    refine (AnyG.slices_Compact_int_empty laysCompact a c w).mono ?_
    rintro e w' ⟨rfl, rfl⟩
    have hs : H.set id ⟨ver, false, el, 1, (setU []).map (LV.int .i64)⟩ = H := set_self ho
    exact ⟨_, rfl, .sl id ver 0 0 none, μ, H, hR, ⟨_, a, c, ho, h2, rfl, h3'⟩, Ext.refl _ _, rfl, hs.symm⟩
  · obtain ⟨hc1, hc2⟩ := g4 rfl
    have hz : (μ id).size ≠ 0 := by have := hc1 rfl; simp only [Nat.zero_add, Nat.mul_one] at this; omega
    obtain ⟨k1, k2, k3, cur, k4, k5⟩ := hR.real ho rfl hz
    have ha2 : a = some ⟨(μ id).b, 0, none⟩ := by rw [g2 (by omega)]; simp [ad, k2]
    subst ha2
    refine (AnyG.slices_Compact_int laysCompact (μ id).b 0 c xs w (row_holds hR ho hz) (by omega) g1).mono ?_
    rintro e w' ⟨rfl, q, rfl⟩
    rw [compact_setU hs]
    have hp := hR.put ho hz (setU xs) (List.replicate (xs.length - (setU xs).length) 0) (by rw [List.length_append, List.length_replicate]; simp only [List.length_map] at k3; omega) q #[]
    rw [grow_empty] at hp
    refine ⟨_, rfl, .sl id ver 0 (setU xs).length none, μ, _, hp.1, ⟨⟨ver, false, el, 1, (setU xs).map (LV.int .i64)⟩, _, c, by simp [hid], Nat.le_refl _, rfl, fun _ => ⟨by omega, g2, fun k hk => (by cases hk), fun _ => g4 rfl⟩⟩, hp.2, rfl, rfl⟩
end Go.Proofs.Ytpbafacehmjdmaa

namespace Go.Proofs.Ytpbafacehmjdmaa
open Go.RowKit
set_option linter.unusedSimpArgs false
set_option linter.unusedVariables false
set_option maxRecDepth 100000

theorem asliceS_00 (te : TE) (H : Hp) (x : LV) (hi mx : Option LV) : asliceS te H x none hi mx = asliceS te H x (some (.int .i64 0)) hi mx := by
  have h : ∀ b : Nat, asliceB b none 0 = asliceB b (some (.int .i64 0)) 0 := by intro b; simp [asliceB]
  unfold asliceS; cases x <;> simp only [h]
theorem RdL.pre {H : Hp} {id ver off n m : Nat} {cap : Option Nat} {cs : List LV} (h : RdL H (.sl id ver off n cap) cs) (hm : m ≤ n) : RdL H (.sl id ver off m cap) (cs.take m) := by
  have hn : cs.length = n := by have := h.1; simpa [lenOf] using this.symm
  rcases Nat.eq_zero_or_pos m with h0 | h0
  · subst h0
    refine ⟨by simp [lenOf], ?_, h.2.2.1, fun k hk => Nat.zero_le _⟩
    have h2 := h.2.1
    simp only [cellsOf, Nat.mul_one, List.take_zero] at h2 ⊢
    unfold hgets at h2 ⊢
    cases ho : H[id]? with
    | none => rw [ho] at h2; cases h2
    | some o =>
      rw [ho] at h2
      simp only at h2 ⊢
      split at h2
      case isFalse => cases h2
      rename_i hc
      rw [if_pos ⟨hc.1, by omega⟩]; simp
  · have hs := h.sub (l := 0) (m := m) (by omega) h0
    have e : subOf (.sl id ver off n cap) 0 m = .sl id ver off m cap := by cases cap <;> simp [subOf]
    rw [e] at hs
    simpa using hs
theorem slice_pre {lv : LV} {xs : List Int} {H : Hp} (h : RdL H lv (xs.map (LV.int .i64))) {i : Nat} (hi : i < xs.length) : asliceS ⟨.int .i64, 1, 8, [.int .i64 0]⟩ H lv none (some (.int .i64 (i : Nat))) none = some (subOf lv 0 i) := by
  rw [asliceS_00, h.slice rfl (by omega) (by omega) (by simp; omega)]
  simp
theorem sub_pre {lv : LV} {xs : List Int} {H : Hp} (h : RdL H lv (xs.map (LV.int .i64))) {i : Nat} (hi : i < xs.length) : RdL H (subOf lv 0 i) ((xs.take i).map (LV.int .i64)) := by
  obtain ⟨id, ver, off, cap, rfl⟩ := h.isSl hi
  have e : subOf (.sl id ver off xs.length cap) 0 i = .sl id ver off i cap := by cases cap <;> simp [subOf]
  rw [e, List.map_take]
  exact h.pre (by omega)
theorem contains_ix {xs : List Int} {k : Nat} {x : Int} (hk : k < xs.length) (h : (ix xs k == x) = true) : xs.contains x = true := by
  rw [List.contains_iff_mem]; have := ix_mem xs k hk; rw [beq_iff_eq] at h; rwa [h] at this
theorem contains_none {xs : List Int} {x : Int} (h : ∀ j, j < xs.length → (ix xs j == x) = false) : xs.contains x = false := by
  cases e : xs.contains x
  · rfl
  · rw [List.contains_iff_mem] at e
    obtain ⟨j, hj, he⟩ := List.getElem_of_mem e
    have := h j hj
    rw [ix_eq _ _ hj, he] at this
    simp at this
/-- Where a number stands first, or -1. -/
def at1 (xs : List Int) (x : Int) : Int := idxF (fun y => y == x) xs
theorem Index_int64_c (lv : LV) (xs : List Int) (x : Int) (H : Hp) (h : RdL H lv (xs.map (LV.int .i64))) (hn : xs.length ≤ 1048576) :
    FunH Try.prog 52 [lv, .int .i64 x] H fun r H' => r = .int .i64 (at1 xs x) ∧ H' = H := by
  unfold at1
  (refine FunH_body tyOk Try.func52 rfl (by kernel_rfl) Try.ntmps52 (fun hcl hbd => ?_); simp only [List.length_cons, List.length_nil, Nat.reduceAdd, Nat.reduceSub, List.replicate, List.cons_append, List.nil_append])
  repeat' (first
    | ((with_reducible refine hK _ _ ?_); clear hK K)
    | ((first | (with_reducible show AOp _ _ _ _ _ _ _)); simp (disch := first | ((with_reducible show liveO _ _ _ = true); first | assumption | (exact liveO_setS (by assumption)) | (exact PtL.live (by assumption)) | (exact PtL.liveA (by assumption) _) | (simp only [go_sem]; done)) | omega | assumption | rfl | (simp only [go_sem]; first | done | omega)) only [go_sem, reduceIte, reduceCtorEq, Nat.reduceAdd, Nat.reduceMul, Nat.reduceSub, Nat.reduceLeDiff, Nat.lt_irrefl, Nat.reduceLT, Nat.reduceEqDiff, Nat.reduceBEq, Int.reduceLE, Int.reduceLT, Int.reduceToNat, w64, eq_self, h.lenm])
    | (with_reducible refine AW_seq (fun K hK => ?_))
    | (with_reducible refine AW_region tyOk ?_)
    | (with_reducible refine AOps_cons (fun K hK => ?_))
    | ((with_reducible refine AOps_nil ?_); try simp only [thenA, blockA, if_true, if_false, reduceIte, Nat.reduceEqDiff, reduceCtorEq])
    | (with_reducible refine AW_block ?_)
    | ((first | (with_reducible refine AW_ret ?_) | (with_reducible refine AW_skip ?_) | (with_reducible refine AW_exit ?_)); try simp only [thenA, blockA, if_true, if_false, reduceIte, Nat.reduceEqDiff, reduceCtorEq])
    | ((with_reducible show AW _ _ (.cond _ _ _) _ _ _); refine AW_cond rfl (fun hg => ?_) (fun hg => ?_) <;> first | (exfalso; simp only [reduceCtorEq] at hg; done) | ((try simp only [Bool.not_eq_true', Bool.not_eq_false', decide_eq_true_eq, decide_eq_false_iff_not] at hg); try (exfalso; omega)))
    | ((with_reducible show _ ∧ _); refine And.intro (fun hg => ?_) (fun hg => ?_) <;> (try simp only [Bool.not_eq_true', Bool.not_eq_false'] at hg) <;> simp only [hg] <;> (try simp only [decide_eq_true_eq, decide_eq_false_iff_not] at hg) <;> (try (exfalso; omega)))
    | (clear hK K)
    | fail)
  refine AW_loopV [4, 5, 8, 9, 10, 11, 12, 13, 14, 15, 16, 17, 18] (fun k : Nat => [(8, .int .i64 (k : Nat))]) (fun _ => H) (fun k => k ≤ xs.length ∧ ∀ j, j < k → (ix xs j == x) = false) (fun k => xs.length - k) 0 ⟨Nat.zero_le _, fun j hj => by omega⟩ ?_ rfl ?_
  · simp only [junkAll, setAll, List.foldl_cons, List.foldl_nil, List.set_cons_succ, List.set_cons_zero, JL, true_or, or_true, and_true, true_and, reduceCtorEq, false_or, or_false, LV.int.injEq, LV.bool.injEq, LV.flt.injEq, LV.sl.injEq, LV.ptr.injEq, eq_self, Int.natCast_add, Int.natCast_one, Int.natCast_zero, Int.ofNat_zero]
  · intro k ⟨hk, hp⟩ K hK
    simp only [junkAll, setAll, List.foldl_cons, List.foldl_nil, List.set_cons_succ, List.set_cons_zero]
    by_cases hkl : k < xs.length
    · cases e : ix xs k == x
      · have e' : (x == ix xs k) = false := by rw [← e]; exact Bool.beq_comm ..
        repeat' (first
          | ((with_reducible refine hK _ _ ?_); clear hK K)
          | ((first | (with_reducible show AOp _ _ _ _ _ _ _)); simp (disch := first | ((with_reducible show liveO _ _ _ = true); first | assumption | (exact liveO_setS (by assumption)) | (exact PtL.live (by assumption)) | (exact PtL.liveA (by assumption) _) | (simp only [go_sem]; done)) | omega | assumption | rfl | (simp only [go_sem]; first | done | omega)) only [go_sem, reduceIte, reduceCtorEq, Nat.reduceAdd, Nat.reduceMul, Nat.reduceSub, Nat.reduceLeDiff, Nat.lt_irrefl, Nat.reduceLT, Nat.reduceEqDiff, Nat.reduceBEq, Int.reduceLE, Int.reduceLT, Int.reduceToNat, w64, eq_self, h.lenm, h.idxm, h.ldm, e, e'])
          | (with_reducible refine AW_seq (fun K hK => ?_))
          | (with_reducible refine AW_region tyOk ?_)
          | (with_reducible refine AOps_cons (fun K hK => ?_))
          | ((with_reducible refine AOps_nil ?_); try simp only [thenA, blockA, if_true, if_false, reduceIte, Nat.reduceEqDiff, reduceCtorEq])
          | (with_reducible refine AW_block ?_)
          | ((first | (with_reducible refine AW_ret ?_) | (with_reducible refine AW_skip ?_) | (with_reducible refine AW_exit ?_)); try simp only [thenA, blockA, if_true, if_false, reduceIte, Nat.reduceEqDiff, reduceCtorEq])
          | ((with_reducible show AW _ _ (.cond _ _ _) _ _ _); refine AW_cond rfl (fun hg => ?_) (fun hg => ?_) <;> first | (exfalso; simp only [reduceCtorEq] at hg; done) | ((try simp only [Bool.not_eq_true', Bool.not_eq_false', decide_eq_true_eq, decide_eq_false_iff_not] at hg); try (exfalso; omega)))
          | ((with_reducible show _ ∧ _); refine And.intro (fun hg => ?_) (fun hg => ?_) <;> (try simp only [Bool.not_eq_true', Bool.not_eq_false'] at hg) <;> simp only [hg] <;> (try simp only [decide_eq_true_eq, decide_eq_false_iff_not] at hg) <;> (try (exfalso; omega)))
          | (clear hK K)
          | fail)
        refine hK _ _ (k + 1) ⟨by omega, lt_succ_cases hp e⟩ (by omega) ?_ rfl
        simp only [junkAll, setAll, List.foldl_cons, List.foldl_nil, List.set_cons_succ, List.set_cons_zero, JL, true_or, or_true, and_true, true_and, reduceCtorEq, false_or, or_false, LV.int.injEq, LV.bool.injEq, LV.flt.injEq, LV.sl.injEq, LV.ptr.injEq, eq_self, Int.natCast_add, Int.natCast_one, Int.natCast_zero, Int.ofNat_zero]
      · have e' : (x == ix xs k) = true := by rw [← e]; exact Bool.beq_comm ..
        repeat' (first
          | ((with_reducible refine hK _ _ ?_); clear hK K)
          | ((first | (with_reducible show AOp _ _ _ _ _ _ _)); simp (disch := first | ((with_reducible show liveO _ _ _ = true); first | assumption | (exact liveO_setS (by assumption)) | (exact PtL.live (by assumption)) | (exact PtL.liveA (by assumption) _) | (simp only [go_sem]; done)) | omega | assumption | rfl | (simp only [go_sem]; first | done | omega)) only [go_sem, reduceIte, reduceCtorEq, Nat.reduceAdd, Nat.reduceMul, Nat.reduceSub, Nat.reduceLeDiff, Nat.lt_irrefl, Nat.reduceLT, Nat.reduceEqDiff, Nat.reduceBEq, Int.reduceLE, Int.reduceLT, Int.reduceToNat, w64, eq_self, h.lenm, h.idxm, h.ldm, e, e'])
          | (with_reducible refine AW_seq (fun K hK => ?_))
          | (with_reducible refine AW_region tyOk ?_)
          | (with_reducible refine AOps_cons (fun K hK => ?_))
          | ((with_reducible refine AOps_nil ?_); try simp only [thenA, blockA, if_true, if_false, reduceIte, Nat.reduceEqDiff, reduceCtorEq])
          | (with_reducible refine AW_block ?_)
          | ((first | (with_reducible refine AW_ret ?_) | (with_reducible refine AW_skip ?_) | (with_reducible refine AW_exit ?_)); try simp only [thenA, blockA, if_true, if_false, reduceIte, Nat.reduceEqDiff, reduceCtorEq])
          | ((with_reducible show AW _ _ (.cond _ _ _) _ _ _); refine AW_cond rfl (fun hg => ?_) (fun hg => ?_) <;> first | (exfalso; simp only [reduceCtorEq] at hg; done) | ((try simp only [Bool.not_eq_true', Bool.not_eq_false', decide_eq_true_eq, decide_eq_false_iff_not] at hg); try (exfalso; omega)))
          | ((with_reducible show _ ∧ _); refine And.intro (fun hg => ?_) (fun hg => ?_) <;> (try simp only [Bool.not_eq_true', Bool.not_eq_false'] at hg) <;> simp only [hg] <;> (try simp only [decide_eq_true_eq, decide_eq_false_iff_not] at hg) <;> (try (exfalso; omega)))
          | (clear hK K)
          | fail)
        all_goals (first | refine EndA_cut hcl (by first | exact Or.inr rfl | exact Or.inl rfl) (by simp only [Try.results52, resA, aresL, go_sem, reduceIte, reduceCtorEq, Nat.reduceAdd, Nat.reduceMul, Nat.reduceSub, Nat.reduceLeDiff, Nat.lt_irrefl, Nat.reduceLT, Nat.reduceEqDiff, Nat.reduceBEq, Int.reduceLE, Int.reduceLT, Int.reduceToNat, w64, eq_self] <;> rfl) rfl ?_ | refine EndA_same (by first | exact Or.inr rfl | exact Or.inl rfl) (by simp only [Try.results52, resA, aresL, go_sem, reduceIte, reduceCtorEq, Nat.reduceAdd, Nat.reduceMul, Nat.reduceSub, Nat.reduceLeDiff, Nat.lt_irrefl, Nat.reduceLT, Nat.reduceEqDiff, Nat.reduceBEq, Int.reduceLE, Int.reduceLT, Int.reduceToNat, w64, eq_self] <;> rfl) ?_)
        all_goals exact ⟨by rw [idxF_at (p := fun y => y == x) hkl e hp], rfl⟩
    · repeat' (first
        | ((with_reducible refine hK _ _ ?_); clear hK K)
        | ((first | (with_reducible show AOp _ _ _ _ _ _ _)); simp (disch := first | ((with_reducible show liveO _ _ _ = true); first | assumption | (exact liveO_setS (by assumption)) | (exact PtL.live (by assumption)) | (exact PtL.liveA (by assumption) _) | (simp only [go_sem]; done)) | omega | assumption | rfl | (simp only [go_sem]; first | done | omega)) only [go_sem, reduceIte, reduceCtorEq, Nat.reduceAdd, Nat.reduceMul, Nat.reduceSub, Nat.reduceLeDiff, Nat.lt_irrefl, Nat.reduceLT, Nat.reduceEqDiff, Nat.reduceBEq, Int.reduceLE, Int.reduceLT, Int.reduceToNat, w64, eq_self, h.lenm])
        | (with_reducible refine AW_seq (fun K hK => ?_))
        | (with_reducible refine AW_region tyOk ?_)
        | (with_reducible refine AOps_cons (fun K hK => ?_))
        | ((with_reducible refine AOps_nil ?_); try simp only [thenA, blockA, if_true, if_false, reduceIte, Nat.reduceEqDiff, reduceCtorEq])
        | (with_reducible refine AW_block ?_)
        | ((first | (with_reducible refine AW_ret ?_) | (with_reducible refine AW_skip ?_) | (with_reducible refine AW_exit ?_)); try simp only [thenA, blockA, if_true, if_false, reduceIte, Nat.reduceEqDiff, reduceCtorEq])
        | ((with_reducible show AW _ _ (.cond _ _ _) _ _ _); refine AW_cond rfl (fun hg => ?_) (fun hg => ?_) <;> first | (exfalso; simp only [reduceCtorEq] at hg; done) | ((try simp only [Bool.not_eq_true', Bool.not_eq_false', decide_eq_true_eq, decide_eq_false_iff_not] at hg); try (exfalso; omega)))
        | ((with_reducible show _ ∧ _); refine And.intro (fun hg => ?_) (fun hg => ?_) <;> (try simp only [Bool.not_eq_true', Bool.not_eq_false'] at hg) <;> simp only [hg] <;> (try simp only [decide_eq_true_eq, decide_eq_false_iff_not] at hg) <;> (try (exfalso; omega)))
        | (clear hK K)
        | fail)
      all_goals (first | refine EndA_cut hcl (by first | exact Or.inr rfl | exact Or.inl rfl) (by simp only [Try.results52, resA, aresL, go_sem, reduceIte, reduceCtorEq, Nat.reduceAdd, Nat.reduceMul, Nat.reduceSub, Nat.reduceLeDiff, Nat.lt_irrefl, Nat.reduceLT, Nat.reduceEqDiff, Nat.reduceBEq, Int.reduceLE, Int.reduceLT, Int.reduceToNat, w64, eq_self] <;> rfl) rfl ?_ | refine EndA_same (by first | exact Or.inr rfl | exact Or.inl rfl) (by simp only [Try.results52, resA, aresL, go_sem, reduceIte, reduceCtorEq, Nat.reduceAdd, Nat.reduceMul, Nat.reduceSub, Nat.reduceLeDiff, Nat.lt_irrefl, Nat.reduceLT, Nat.reduceEqDiff, Nat.reduceBEq, Int.reduceLE, Int.reduceLT, Int.reduceToNat, w64, eq_self] <;> rfl) ?_)
      all_goals exact ⟨by rw [idxF_none (p := fun y => y == x) fun j hj => hp j (by omega)], rfl⟩
/-- The place of the least number. -/
def lowN (C : List Int) : Nat := (at1 C (foldM min C)).toNat
theorem foldM_min {C : List Int} (h : 0 < C.length) : foldM min C ∈ C ∧ ∀ x ∈ C, foldM min C ≤ x := by
  cases C with
  | nil => simp at h
  | cons a r =>
    have hg : ∀ (r : List Int) (a : Int), (r.foldl min a = a ∨ r.foldl min a ∈ r) ∧ r.foldl min a ≤ a ∧ ∀ x ∈ r, r.foldl min a ≤ x := by
      intro r
      induction r with
      | nil => intro a; exact ⟨Or.inl rfl, Int.le_refl _, fun x hx => absurd hx (by simp)⟩
      | cons b r ih =>
        intro a
        obtain ⟨i1, i2, i3⟩ := ih (min a b)
        simp only [List.foldl_cons, List.mem_cons]
        refine ⟨?_, by omega, fun x hx => ?_⟩
        · rcases i1 with i1 | i1
          · rw [i1]; rcases Int.le_total a b with hab | hab
            · rw [Int.min_eq_left hab]; exact Or.inl rfl
            · rw [Int.min_eq_right hab]; exact Or.inr (Or.inl rfl)
          · exact Or.inr (Or.inr i1)
        · rcases hx with rfl | hx
          · omega
          · exact i3 x hx
    obtain ⟨h1, h2, h3⟩ := hg r a
    unfold foldM
    show (r.foldl min a) ∈ _ ∧ ∀ x ∈ a :: r, r.foldl min a ≤ x
    refine ⟨?_, fun x hx => ?_⟩
    · rcases h1 with h1 | h1
      · rw [h1]; simp
      · exact List.mem_cons_of_mem _ h1
    · rcases List.mem_cons.1 hx with rfl | hx
      · exact h2
      · exact h3 x hx
theorem at1_low {C : List Int} (h : 0 < C.length) : ∃ k : Nat, at1 C (foldM min C) = k ∧ k < C.length ∧ ix C k = foldM min C ∧ lowN C = k := by
  obtain ⟨h1, h2⟩ := foldM_min h
  have hex : ∃ k, k < C.length ∧ (ix C k == foldM min C) = true ∧ ∀ j, j < k → (ix C j == foldM min C) = false := by
    obtain ⟨i, hi, he⟩ := List.getElem_of_mem h1
    have : ∀ n, (∃ k, k < n ∧ k < C.length ∧ (ix C k == foldM min C) = true ∧ ∀ j, j < k → (ix C j == foldM min C) = false) ∨ ∀ j, j < n → j < C.length → (ix C j == foldM min C) = false := by
      intro n
      induction n with
      | zero => exact Or.inr fun j hj => by omega
      | succ n ih =>
        rcases ih with ⟨k, a, b⟩ | ih
        · exact Or.inl ⟨k, by omega, b⟩
        · by_cases hn : n < C.length
          · cases e : ix C n == foldM min C
            · refine Or.inr fun j hj hl => ?_
              rcases Nat.lt_or_ge j n with h' | h'
              · exact ih j h' hl
              · have : j = n := by omega
                subst this; exact e
            · exact Or.inl ⟨n, by omega, hn, e, fun j hj => ih j hj (by omega)⟩
          · exact Or.inr fun j hj hl => ih j (by omega) hl
    rcases this C.length with ⟨k, a, b, c⟩ | h0
    · exact ⟨k, b, c⟩
    · have := h0 i hi hi
      rw [ix_eq _ _ hi, he] at this
      simp at this
  obtain ⟨k, hk, hp, hq⟩ := hex
  have e : at1 C (foldM min C) = k := idxF_at (p := fun y => y == foldM min C) hk hp hq
  exact ⟨k, e, hk, by simpa using hp, by unfold lowN; rw [e]; rfl⟩
theorem low_is {C : List Int} {k : Nat} (h : k < C.length) (h1 : ∀ j, j < C.length → ix C k ≤ ix C j) (h2 : ∀ j, j < k → ix C k < ix C j) : lowN C = k := by
  obtain ⟨m, _, m2, m3, m4⟩ := at1_low (C := C) (by omega)
  rw [m4]
  have h3 := (foldM_min (C := C) (by omega)).2 _ (ix_mem C k h)
  have h4 := h1 m m2
  rcases Nat.lt_trichotomy m k with hm | hm | hm
  · have := h2 m hm; omega
  · exact hm
  · exfalso
    obtain ⟨_, h5⟩ := foldM_min (C := C) (by omega)
    have e : at1 C (foldM min C) = (m : Int) := by obtain ⟨k', a, b, c, d⟩ := at1_low (C := C) (by omega); rw [a]; omega
    have : (ix C k == foldM min C) = true := by rw [beq_iff_eq]; omega
    unfold at1 idxF at e
    split at e
    · rename_i i he
      rw [List.findIdx?_eq_some_iff_getElem] at he
      obtain ⟨q1, q2, q3⟩ := he
      have := q3 k (by omega)
      rw [← ix_eq _ _ h] at this
      simp_all
    · omega
/-- Whether tops are valid. -/
def topB (room : Int) (K C E : List Int) : Bool := inB room 1 32 && decide ((K.length : Int) ≤ room) && decide (C.length = K.length) && decide (E.length = K.length) &&
  ((List.range C.length).all fun i => inB (ix C i) 1 1000000000000 && inB (ix E i) 0 (ix C i - 1)) && K.all keyB && difB K
end Go.Proofs.Ytpbafacehmjdmaa

namespace Go.Proofs.Ytpbafacehmjdmaa
open Go.RowKit
set_option linter.unusedSimpArgs false
set_option linter.unusedVariables false

structure Ds4 (n : Nat) (a b c p : Nat) : Prop where
  la : a < n
  lb : b < n
  lc : c < n
  lp : p < n
  ab : a ≠ b
  ac : a ≠ c
  ap : a ≠ p
  bc : b ≠ c
  bp : b ≠ p
  cp : c ≠ p
def T4 (H : Hp) (a b c p : Nat) (A B C P : AO) : Hp := (((H.set a A).set b B).set c C).set p P
section
variable {H L : Hp} {a b c p n : Nat} {A B C P X A' B' C' P' : AO}
theorem T4.len : (T4 H a b c p A B C P).length = H.length := by unfold T4; simp
theorem T4.ga (D : Ds4 H.length a b c p) : (T4 H a b c p A B C P)[a]? = some A := by
  unfold T4; rw [List.getElem?_set_ne (Ne.symm D.ap), List.getElem?_set_ne (Ne.symm D.ac), List.getElem?_set_ne (Ne.symm D.ab), List.getElem?_set_self D.la]
theorem T4.gb (D : Ds4 H.length a b c p) : (T4 H a b c p A B C P)[b]? = some B := by
  unfold T4; rw [List.getElem?_set_ne (Ne.symm D.bp), List.getElem?_set_ne (Ne.symm D.bc), List.getElem?_set_self (by simpa using D.lb)]
theorem T4.gc (D : Ds4 H.length a b c p) : (T4 H a b c p A B C P)[c]? = some C := by
  unfold T4; rw [List.getElem?_set_ne (Ne.symm D.cp), List.getElem?_set_self (by simpa using D.lc)]
theorem T4.gp (D : Ds4 H.length a b c p) : (T4 H a b c p A B C P)[p]? = some P := by
  unfold T4; rw [List.getElem?_set_self (by simpa using D.lp)]
theorem T4.gaA (D : Ds4 H.length a b c p) : (T4 H a b c p A B C P ++ L)[a]? = some A := by rw [List.getElem?_append_left (by rw [T4.len]; exact D.la), T4.ga D]
theorem T4.gbA (D : Ds4 H.length a b c p) : (T4 H a b c p A B C P ++ L)[b]? = some B := by rw [List.getElem?_append_left (by rw [T4.len]; exact D.lb), T4.gb D]
theorem T4.gcA (D : Ds4 H.length a b c p) : (T4 H a b c p A B C P ++ L)[c]? = some C := by rw [List.getElem?_append_left (by rw [T4.len]; exact D.lc), T4.gc D]
theorem T4.gpA (D : Ds4 H.length a b c p) : (T4 H a b c p A B C P ++ L)[p]? = some P := by rw [List.getElem?_append_left (by rw [T4.len]; exact D.lp), T4.gp D]
theorem T4.sp (D : Ds4 H.length a b c p) : (T4 H a b c p A B C P).set p X = T4 H a b c p A B C X := by unfold T4; rw [List.set_set]
theorem T4.sc (D : Ds4 H.length a b c p) : (T4 H a b c p A B C P).set c X = T4 H a b c p A B X P := by unfold T4; rw [List.set_comm _ _ (Ne.symm D.cp), List.set_set]
theorem T4.sb (D : Ds4 H.length a b c p) : (T4 H a b c p A B C P).set b X = T4 H a b c p A X C P := by
  unfold T4; rw [List.set_comm _ _ (Ne.symm D.bp), List.set_comm _ _ (Ne.symm D.bc), List.set_set]
theorem T4.sa (D : Ds4 H.length a b c p) : (T4 H a b c p A B C P).set a X = T4 H a b c p X B C P := by
  unfold T4; rw [List.set_comm _ _ (Ne.symm D.ap), List.set_comm _ _ (Ne.symm D.ac), List.set_comm _ _ (Ne.symm D.ab), List.set_set]
theorem T4.spA (D : Ds4 H.length a b c p) : (T4 H a b c p A B C P ++ L).set p X = T4 H a b c p A B C X ++ L := by rw [List.set_append_left _ _ (by rw [T4.len]; exact D.lp), T4.sp D]
theorem T4.scA (D : Ds4 H.length a b c p) : (T4 H a b c p A B C P ++ L).set c X = T4 H a b c p A B X P ++ L := by rw [List.set_append_left _ _ (by rw [T4.len]; exact D.lc), T4.sc D]
theorem T4.sbA (D : Ds4 H.length a b c p) : (T4 H a b c p A B C P ++ L).set b X = T4 H a b c p A X C P ++ L := by rw [List.set_append_left _ _ (by rw [T4.len]; exact D.lb), T4.sb D]
theorem T4.saA (D : Ds4 H.length a b c p) : (T4 H a b c p A B C P ++ L).set a X = T4 H a b c p X B C P ++ L := by rw [List.set_append_left _ _ (by rw [T4.len]; exact D.la), T4.sa D]
theorem T4.self (ha : H[a]? = some A) (hb : H[b]? = some B) (hc : H[c]? = some C) (hp : H[p]? = some P) : T4 H a b c p A B C P = H := by
  unfold T4; rw [set_self ha, set_self hb, set_self hc, set_self hp]
theorem closed_setB {H : Hp} (h : Closed H) (id : Nat) (o : AO) (ho : ∀ c ∈ o.cs, bnd H.length c) : Closed (H.set id o) := by
  intro i q hq c hc
  rw [List.length_set]
  by_cases e : i = id
  · subst e
    rw [List.getElem?_set] at hq
    simp only [if_true] at hq
    split at hq
    · cases hq; exact ho c hc
    · cases hq
  · rw [List.getElem?_set_ne (Ne.symm e)] at hq
    exact h i q hq c hc
theorem T4.closed (D : Ds4 H.length a b c p) (h : Closed (T4 H a b c p A B C P)) (ha : ∀ x ∈ A'.cs, bnd H.length x) (hb : ∀ x ∈ B'.cs, bnd H.length x) (hc : ∀ x ∈ C'.cs, bnd H.length x) (hp : ∀ x ∈ P'.cs, bnd H.length x) : Closed (T4 H a b c p A' B' C' P') := by
  have h1 := closed_setB h a A' (by rw [T4.len]; exact ha)
  rw [T4.sa D] at h1
  have h2 := closed_setB h1 b B' (by rw [T4.len]; exact hb)
  rw [T4.sb D] at h2
  have h3 := closed_setB h2 c C' (by rw [T4.len]; exact hc)
  rw [T4.sc D] at h3
  have h4 := closed_setB h3 p P' (by rw [T4.len]; exact hp)
  rwa [T4.sp D] at h4
theorem hget_i {id ver el sz off : Nat} {ro : Bool} {cs : List LV} (h : H[id]? = some ⟨ver, ro, el, sz, cs⟩) : hget H id ver off = cs[off]? := by simp [hget, h]
theorem hgets_i {id ver el sz off n : Nat} {ro : Bool} {cs : List LV} (h : H[id]? = some ⟨ver, ro, el, sz, cs⟩) (hn : off + n ≤ cs.length) : hgets H id ver off n = some ((cs.drop off).take n) := by simp [hgets, h, hn]
theorem liveO_i {id ver el sz : Nat} {ro : Bool} {cs : List LV} (h : H[id]? = some ⟨ver, ro, el, sz, cs⟩) : liveO H id ver = true := by simp [liveO, h]
theorem hput_i {id ver el sz off : Nat} {cs ys : List LV} (h : H[id]? = some ⟨ver, false, el, sz, cs⟩) (h1 : off + ys.length ≤ cs.length) : hput H id ver off ys = some (H.set id ⟨ver, false, el, sz, sets cs off ys⟩) := by
  simp [hput, h, h1]
end
theorem int_bndI (k : IntKind) (xs : List Int) (n : Nat) : ∀ c ∈ xs.map (LV.int k), bnd n c := by
  intro c hc; obtain ⟨_, _, rfl⟩ := List.mem_map.1 hc; exact trivial
end Go.Proofs.Ytpbafacehmjdmaa

namespace Go.Proofs.Ytpbafacehmjdmaa
open Go.RowKit
set_option linter.unusedSimpArgs false
set_option linter.unusedVariables false
set_option maxRecDepth 100000

def cntB (C E : List Int) (i : Nat) : Bool := inB (ix C i) 1 1000000000000 && inB (ix E i) 0 (ix C i - 1)
theorem topB_eq (room : Int) (K C E : List Int) : topB room K C E = (inB room 1 32 && decide ((K.length : Int) ≤ room) && decide (C.length = K.length) && decide (E.length = K.length) && ((List.range C.length).all (cntB C E)) && K.all keyB && difB K) := rfl
theorem range_all {n : Nat} {p : Nat → Bool} (h : ∀ j, j < n → p j = true) : (List.range n).all p = true := List.all_eq_true.2 fun j hj => h j (List.mem_range.1 hj)
theorem range_not {n j : Nat} {p : Nat → Bool} (hj : j < n) (h : p j = false) : (List.range n).all p = false := by
  rw [List.all_eq_false]; exact ⟨j, List.mem_range.2 hj, by simp [h]⟩
theorem difB_take {K : List Int} {k : Nat} (h : k < K.length) : difB (K.take (k + 1)) = (difB (K.take k) && !(K.take k).contains (ix K k)) := by
  have e : K.take (k + 1) = K.take k ++ [ix K k] := by rw [List.take_add_one, List.getElem?_eq_getElem h, ix_eq _ _ h]; rfl
  rw [e, difB_snoc]
theorem difB_pre {K : List Int} : ∀ (m k : Nat), k + m = K.length → difB (K.take k) = false → difB K = false
  | 0, k, hk, h => by rwa [show k = K.length by omega, List.take_length] at h
  | m + 1, k, hk, h => difB_pre m (k + 1) (by omega) (by rw [difB_take (by omega), h]; rfl)
end Go.Proofs.Ytpbafacehmjdmaa

namespace Go.Proofs.Ytpbafacehmjdmaa
open Go.RowKit
set_option linter.unusedSimpArgs false
set_option linter.unusedVariables false
set_option maxRecDepth 100000

/-- What tops hold when a key is put: the keys, the counts, the errors; whether they grew. -/
def tpS (room : Int) (Ks C E : List Int) (key : Int) : List Int × List Int × List Int × Nat :=
  if 0 ≤ at1 Ks key then (Ks, C.set (at1 Ks key).toNat (ix C (at1 Ks key).toNat + 1), E, 0)
  else if (Ks.length : Int) < room then (Ks ++ [key], C ++ [1], E ++ [0], 1)
  else (Ks.set (lowN C) key, C.set (lowN C) (ix C (lowN C) + 1), E.set (lowN C) (ix C (lowN C)), 0)
theorem at1_in {xs : List Int} {x : Int} (h : 0 ≤ at1 xs x) : ∃ k : Nat, at1 xs x = k ∧ k < xs.length := by
  rcases idxF_lt (p := fun y => y == x) (xs := xs) with h1 | h1
  · refine ⟨(at1 xs x).toNat, by omega, ?_⟩
    have : at1 xs x = idxF (fun y => y == x) xs := rfl
    omega
  · subst h1
    exact absurd h (by unfold at1 idxF; simp)
theorem at1_out {xs : List Int} {x : Int} (h : ¬ 0 ≤ at1 xs x) : at1 xs x = -1 := by
  rcases idxF_lt (p := fun y => y == x) (xs := xs) with h1 | h1
  · have : at1 xs x = idxF (fun y => y == x) xs := rfl
    omega
  · subst h1; rfl
theorem set_mapI (xs : List Int) (k : Nat) (x : Int) : (xs.map (LV.int .i64)).set k (.int .i64 x) = (xs.set k x).map (LV.int .i64) := (List.map_set ..).symm
theorem app_mapI (xs : List Int) (x : Int) : xs.map (LV.int .i64) ++ [.int .i64 x] = (xs ++ [x]).map (LV.int .i64) := by rw [List.map_append]; rfl
theorem T4.closedT {H : Hp} {a b c p el tl : Nat} {A B C P : AO} (D : Ds4 H.length a b c p) (hcl : Closed (T4 H a b c p A B C P)) (room : Int) (Ks' C' E' : List Int) (va' vb' vc' vp n1 n2 n3 : Nat) :
    Closed (T4 H a b c p ⟨va', false, el, 1, Ks'.map (LV.int .i64)⟩ ⟨vb', false, el, 1, C'.map (LV.int .i64)⟩ ⟨vc', false, el, 1, E'.map (LV.int .i64)⟩ ⟨vp, false, tl, 4, [.int .i64 room, .sl a va' 0 n1 none, .sl b vb' 0 n2 none, .sl c vc' 0 n3 none]⟩) :=
  T4.closed D hcl (int_bndI _ _ _) (int_bndI _ _ _) (int_bndI _ _ _) (by
      intro x hx
      simp only [List.mem_cons, List.not_mem_nil, or_false] at hx
      rcases hx with rfl | rfl | rfl | rfl
      · exact trivial
      · exact D.la
      · exact D.lb
      · exact D.lc)
end Go.Proofs.Ytpbafacehmjdmaa

