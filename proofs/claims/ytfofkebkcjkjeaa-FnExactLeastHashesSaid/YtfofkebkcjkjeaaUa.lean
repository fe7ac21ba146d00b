/- Rows of integers put in ascending order, each but once. -/
import Derived.Test.YtfofkebkcjkjeaaSl
import Derived.Lib.SlicesCompact
namespace Go.Proofs.Ytfofkebkcjkjeaa
set_option linter.unusedSimpArgs false
set_option linter.unusedVariables false

/-- Ascending, no two alike. -/
def Inc (L : List Int) : Prop := L.Pairwise (· < ·)
def insU (x : Int) : List Int → List Int
  | [] => [x]
  | a :: r => if x < a then x :: a :: r else if x = a then a :: r else a :: insU x r
theorem insU_mem (x : Int) : ∀ (L : List Int) (y : Int), y ∈ insU x L ↔ y = x ∨ y ∈ L
  | [], y => by simp [insU]
  | a :: r, y => by
    unfold insU
    split
    · simp
    · split
      · rename_i h; subst h; simp
      · simp only [List.mem_cons, insU_mem x r y]; constructor
        · rintro (h | h | h) <;> simp [h]
        · rintro (h | h | h) <;> simp [h]
theorem insU_inc (x : Int) : ∀ {L : List Int}, Inc L → Inc (insU x L)
  | [], _ => by simp [insU, Inc]
  | a :: r, h => by
    unfold Inc at h ⊢
    have h1 := List.pairwise_cons.1 h
    unfold insU
    split
    · refine List.pairwise_cons.2 ⟨fun y hy => ?_, h⟩
      rcases List.mem_cons.1 hy with rfl | hy
      · assumption
      · have := h1.1 y hy; omega
    · split
      · exact h
      · refine List.pairwise_cons.2 ⟨fun y hy => ?_, insU_inc x h1.2⟩
        rcases (insU_mem x r y).1 hy with rfl | hy
        · omega
        · exact h1.1 y hy
theorem insU_in {x : Int} {L : List Int} (h : Inc L) (hx : x ∈ L) : insU x L = L := by
  induction L with
  | nil => cases hx
  | cons a r ih =>
    have h1 := List.pairwise_cons.1 h
    unfold insU
    rcases List.mem_cons.1 hx with rfl | hx
    · rw [if_neg (by omega), if_pos rfl]
    · have := h1.1 x hx
      rw [if_neg (by omega), if_neg (by omega), ih h1.2 hx]
theorem insU_len (x : Int) : ∀ (L : List Int), (insU x L).length ≤ L.length + 1
  | [] => by simp [insU]
  | a :: r => by
    have := insU_len x r
    unfold insU
    split
    · simp
    · split
      · simp
      · simpa using this
theorem Inc.ext : ∀ {L M : List Int}, Inc L → Inc M → (∀ y, y ∈ L ↔ y ∈ M) → L = M
  | [], [], _, _, _ => rfl
  | [], b :: M, _, _, h => absurd ((h b).2 (by simp)) (by simp)
  | a :: L, [], _, _, h => absurd ((h a).1 (by simp)) (by simp)
  | a :: L, b :: M, hL, hM, h => by
    have hL1 := List.pairwise_cons.1 hL
    have hM1 := List.pairwise_cons.1 hM
    have hab : a = b := by
      have h1 := (h a).1 (by simp)
      have h2 := (h b).2 (by simp)
      rcases List.mem_cons.1 h1 with h1 | h1
      · exact h1
      · rcases List.mem_cons.1 h2 with h2 | h2
        · exact h2.symm
        · have := hL1.1 b h2; have := hM1.1 a h1; omega
    subst hab
    congr 1
    refine Inc.ext hL1.2 hM1.2 fun y => ?_
    have hy := h y
    constructor
    · intro h1
      have h3 := hL1.1 y h1
      rcases List.mem_cons.1 (hy.1 (List.mem_cons_of_mem _ h1)) with h2 | h2
      · omega
      · exact h2
    · intro h1
      have h3 := hM1.1 y h1
      rcases List.mem_cons.1 (hy.2 (List.mem_cons_of_mem _ h1)) with h2 | h2
      · omega
      · exact h2
theorem Inc.take {L : List Int} (h : Inc L) (n : Nat) : Inc (L.take n) := List.Pairwise.sublist (List.take_sublist n L) h
theorem insU_take (x : Int) : ∀ (L : List Int) (n : Nat), Inc L → (insU x (L.take n)).take n = (insU x L).take n
  | [], n, _ => by simp
  | a :: r, 0, _ => by simp
  | a :: r, n + 1, h => by
    have h1 := List.pairwise_cons.1 h
    rw [List.take_succ_cons]
    unfold insU
    split
    · rw [List.take_succ_cons, List.take_succ_cons]
      congr 1
      rw [← List.take_succ_cons, List.take_take, Nat.min_eq_left (by omega)]
    · split
      · rw [List.take_succ_cons, List.take_succ_cons, List.take_take, Nat.min_self]
      · rw [List.take_succ_cons, List.take_succ_cons, insU_take x r n h1.2]
/-- All of a list, in order, each but once. -/
def setU (xs : List Int) : List Int := xs.foldl (fun L x => insU x L) []
theorem foldU_inc : ∀ (xs L : List Int), Inc L → Inc (xs.foldl (fun L x => insU x L) L)
  | [], L, h => h
  | x :: xs, L, h => foldU_inc xs _ (insU_inc x h)
theorem foldU_mem : ∀ (xs L : List Int) (y : Int), y ∈ xs.foldl (fun L x => insU x L) L ↔ y ∈ xs ∨ y ∈ L
  | [], L, y => by simp
  | x :: xs, L, y => by
    rw [List.foldl_cons, foldU_mem xs _ y, insU_mem]
    simp only [List.mem_cons]
    constructor
    · rintro (h | h | h) <;> simp [h]
    · rintro ((h | h) | h) <;> simp [h]
theorem setU_inc (xs : List Int) : Inc (setU xs) := foldU_inc xs [] List.Pairwise.nil
theorem setU_mem (xs : List Int) (y : Int) : y ∈ setU xs ↔ y ∈ xs := by unfold setU; rw [foldU_mem]; simp
theorem setU_snoc (xs : List Int) (x : Int) : setU (xs ++ [x]) = insU x (setU xs) := by unfold setU; rw [List.foldl_append]; rfl
theorem setU_unique {xs L : List Int} (h : Inc L) (hm : ∀ y, y ∈ L ↔ y ∈ xs) : L = setU xs := Inc.ext h (setU_inc xs) fun y => by rw [hm, setU_mem]
theorem setU_len (xs : List Int) : (setU xs).length ≤ xs.length := by
  have : ∀ (xs L : List Int), (xs.foldl (fun L x => insU x L) L).length ≤ xs.length + L.length := by
    intro xs
    induction xs with
    | nil => intro L; simp
    | cons x xs ih =>
      intro L
      have h1 := ih (insU x L)
      have h2 := insU_len x L
      simp only [List.foldl_cons, List.length_cons]
      omega
  simpa [setU] using this xs []
/-- Runs of the same left as one. -/
def cmpct : List Int → List Int
  | [] => []
  | [a] => [a]
  | a :: b :: r => if a = b then cmpct (b :: r) else a :: cmpct (b :: r)
theorem cmpct_mem : ∀ (L : List Int) (y : Int), y ∈ cmpct L ↔ y ∈ L
  | [], y => by simp [cmpct]
  | [a], y => by simp [cmpct]
  | a :: b :: r, y => by
    unfold cmpct
    split
    · rename_i h
      rw [cmpct_mem (b :: r) y]
      subst h
      simp
    · rw [List.mem_cons, cmpct_mem (b :: r) y, List.mem_cons (b := a)]
theorem cmpct_inc : ∀ {L : List Int}, L.Pairwise (· ≤ ·) → Inc (cmpct L)
  | [], _ => List.Pairwise.nil
  | [a], _ => by simp [cmpct, Inc]
  | a :: b :: r, h => by
    have h1 := List.pairwise_cons.1 h
    have h2 := List.pairwise_cons.1 h1.2
    have ih := cmpct_inc h1.2
    unfold cmpct
    split
    · exact ih
    · rename_i hne
      refine List.pairwise_cons.2 ⟨fun y hy => ?_, ih⟩
      rw [cmpct_mem] at hy
      have hb := h1.1 b (by simp)
      rcases List.mem_cons.1 hy with rfl | hy
      · omega
      · have := h2.1 y hy; omega
theorem cmpct_len : ∀ (L : List Int), (cmpct L).length ≤ L.length
  | [] => Nat.le_refl _
  | [a] => Nat.le_refl _
  | a :: b :: r => by
    have ih := cmpct_len (b :: r)
    unfold cmpct
    split
    · simp only [List.length_cons] at ih ⊢; omega
    · simp only [List.length_cons] at ih ⊢; omega
/-- In order. -/
def srtI (xs : List Int) : List Int := xs.mergeSort fun x y => decide (x ≤ y)
theorem srtI_perm (xs : List Int) : (srtI xs).Perm xs := List.mergeSort_perm ..
theorem srtI_len (xs : List Int) : (srtI xs).length = xs.length := (srtI_perm xs).length_eq
theorem srtI_asc (xs : List Int) : (srtI xs).Pairwise (· ≤ ·) := by
  have := List.pairwise_mergeSort (le := fun x y : Int => decide (x ≤ y)) (fun a b c h1 h2 => by simp only [decide_eq_true_eq] at *; omega) (fun a b => by simp only [Bool.or_eq_true, decide_eq_true_eq]; omega) xs
  exact this.imp fun h => by simpa using h
theorem cmpct_srt (xs : List Int) : cmpct (srtI xs) = setU xs := setU_unique (cmpct_inc (srtI_asc xs)) fun y => by rw [cmpct_mem]; exact (srtI_perm xs).mem_iff
/-- No two alike. -/
def difB (xs : List Int) : Bool := decide ((setU xs).length = xs.length)
theorem insU_len_in {x : Int} {L : List Int} (h : Inc L) : (insU x L).length = if x ∈ L then L.length else L.length + 1 := by
  split
  · rename_i hx; rw [insU_in h hx]
  · rename_i hx
    induction L with
    | nil => rfl
    | cons a r ih =>
      have h1 := List.pairwise_cons.1 h
      simp only [List.mem_cons, not_or] at hx
      unfold insU
      split
      · rfl
      · rw [if_neg hx.1, List.length_cons, ih h1.2 hx.2]; rfl
theorem difB_snoc (xs : List Int) (x : Int) : difB (xs ++ [x]) = (difB xs && !xs.contains x) := by
  unfold difB
  rw [setU_snoc, insU_len_in (setU_inc xs), List.length_append]
  have := setU_len xs
  by_cases hx : x ∈ xs
  · rw [if_pos ((setU_mem xs x).2 hx)]
    have : xs.contains x = true := by simpa using hx
    rw [this]
    simp
    omega
  · rw [if_neg (fun h => hx ((setU_mem xs x).1 h))]
    have h2 : xs.contains x = false := by simpa using hx
    rw [h2]
    simp
theorem difB_nil : difB [] = true := rfl
theorem compact_setU {xs : List Int} (hs : xs.Pairwise (· ≤ ·)) : Go.Lib.compact xs = setU xs := by
  have hget : ∀ j, j < xs.length → xs.toArray[j]! = xs[j]! := fun j hj => by simp
  have hle : ∀ i j, i ≤ j → j < xs.length → xs.toArray[i]! ≤ xs.toArray[j]! := fun i j hij hj => by
    rw [hget i (by omega), hget j hj, getElem!_pos xs i (by omega), getElem!_pos xs j hj]
    rcases Nat.lt_or_eq_of_le hij with h | h
    · exact List.pairwise_iff_getElem.1 hs i j (by omega) hj h
    · subst h; exact Int.le_refl _
  refine setU_unique ?_ fun y => ?_
  · unfold Go.Lib.compact Go.Lib.compactUpTo Inc
    rw [List.pairwise_map, List.pairwise_filter]
    refine List.Pairwise.imp_of_mem ?_ (List.pairwise_lt_range (n := xs.length))
    intro i j hi hj hij k1 k2
    rw [List.mem_range] at hi hj
    unfold Go.Lib.keeps at k2
    simp only [decide_eq_true_eq] at k2
    rcases k2 with k2 | k2
    · omega
    · have h1 := hle i (j - 1) (by omega) (by omega)
      have h2 := hle (j - 1) j (by omega) hj
      omega
  · unfold Go.Lib.compact Go.Lib.compactUpTo
    rw [List.mem_map]
    constructor
    · rintro ⟨j, hj, rfl⟩
      have hj2 := List.mem_range.1 (List.mem_filter.1 hj).1
      rw [hget j hj2, getElem!_pos xs j hj2]
      exact List.getElem_mem hj2
    · intro hy
      obtain ⟨j, hj, rfl⟩ := List.getElem_of_mem hy
      induction j with
      | zero => exact ⟨0, List.mem_filter.2 ⟨List.mem_range.2 hj, by simp [Go.Lib.keeps]⟩, by rw [hget 0 hj, getElem!_pos xs 0 hj]⟩
      | succ j ih =>
        by_cases hk : Go.Lib.keeps xs.toArray (j + 1) = true
        · exact ⟨j + 1, List.mem_filter.2 ⟨List.mem_range.2 hj, hk⟩, by rw [hget _ hj, getElem!_pos xs _ hj]⟩
        · obtain ⟨m, h1, h2⟩ := ih (by omega) (List.getElem_mem _)
          refine ⟨m, h1, h2.trans ?_⟩
          unfold Go.Lib.keeps at hk
          simp only [decide_eq_true_eq, not_or, ne_eq, Decidable.not_not] at hk
          have h3 := hk.2
          rw [hget _ hj, hget (j + 1 - 1) (by omega), getElem!_pos xs _ hj, getElem!_pos xs _ (show j + 1 - 1 < xs.length by omega)] at h3
          exact h3.symm
end Go.Proofs.Ytfofkebkcjkjeaa
