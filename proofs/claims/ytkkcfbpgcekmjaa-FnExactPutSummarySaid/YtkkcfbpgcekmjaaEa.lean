/- Tuples of summaries: leaving out, plainly. -/
import Derived.Test.YtkkcfbpgcekmjaaBo
namespace Go.Proofs.Ytkkcfbpgcekmjaa
set_option linter.unusedSimpArgs false
set_option linter.unusedVariables false
set_option linter.unusedSectionVars false

/-- A value, its gap, its slack. -/
abbrev Tp := Option Nat × Int × Int
def tv (t : Tp) : Option Nat := t.1
def tg (t : Tp) : Int := t.2.1
def ts (t : Tp) : Int := t.2.2
def mkT : List (Option Nat) → List Int → List Int → List Tp
  | v :: vs, g :: gs, s :: ss => (v, g, s) :: mkT vs gs ss
  | _, _, _ => []
theorem mkT_all : ∀ {vs : List (Option Nat)} {gs ss : List Int}, gs.length = vs.length → ss.length = vs.length → (mkT vs gs ss).map tv = vs ∧ (mkT vs gs ss).map tg = gs ∧ (mkT vs gs ss).map ts = ss ∧ (mkT vs gs ss).length = vs.length
  | [], [], [], _, _ => ⟨rfl, rfl, rfl, rfl⟩
  | v :: vs, g :: gs, s :: ss, h1, h2 => by
    obtain ⟨a, b, c, d⟩ := mkT_all (vs := vs) (gs := gs) (ss := ss) (by simpa using h1) (by simpa using h2)
    refine ⟨?_, ?_, ?_, ?_⟩
    · rw [mkT, List.map_cons, a]; rfl
    · rw [mkT, List.map_cons, b]; rfl
    · rw [mkT, List.map_cons, c]; rfl
    · rw [mkT, List.length_cons, d]; rfl
  | [], _ :: _, _, h1, _ => by simp at h1
  | _ :: _, [], _, h1, _ => by simp at h1
  | [], [], _ :: _, _, h2 => by simp at h2
  | _ :: _, _ :: _, [], _, h2 => by simp at h2
/-- What is left of tuples from the right, the last of which is kept. -/
def sqF (room : Int) : List Tp → List Tp
  | [] => []
  | t :: rest => match sqF room rest with
    | [] => [t]
    | b :: r => if tg t + tg b + ts b ≤ room then (tv b, tg b + tg t, ts b) :: r else t :: b :: r
def sqz (room : Int) : List Tp → List Tp
  | [] => []
  | t :: r => t :: sqF room r
theorem sqF_nil {room : Int} : ∀ {L : List Tp}, sqF room L = [] ↔ L = []
  | [] => by simp [sqF]
  | t :: r => by
    simp only [sqF]
    split
    · simp
    · split <;> simp
theorem sqF_one (room : Int) (t : Tp) : sqF room [t] = [t] := rfl
theorem sqF_cons (room : Int) (t b : Tp) (rest r : List Tp) (h : sqF room rest = b :: r) : sqF room (t :: rest) = if tg t + tg b + ts b ≤ room then (tv b, tg b + tg t, ts b) :: r else t :: b :: r := by
  simp only [sqF, h]
theorem sqF_len {room : Int} : ∀ (L : List Tp), (sqF room L).length ≤ L.length
  | [] => Nat.le_refl _
  | t :: rest => by
    have := sqF_len (room := room) rest
    simp only [sqF]
    split
    · simp
    · rename_i h
      rw [h] at this
      split <;> simp at this ⊢ <;> omega
/-- Bounds. -/
def TB (B : Int) (L : List Tp) : Prop := (∀ t ∈ L, 0 ≤ tg t) ∧ (∀ t ∈ L, 0 ≤ ts t ∧ ts t ≤ B) ∧ sumI (L.map tg) ≤ B
theorem sumI_cons (x : Int) (xs : List Int) : sumI (x :: xs) = x + sumI xs := by
  unfold sumI
  rw [List.foldl_cons, Int.zero_add]
  have : ∀ (ys : List Int) (a : Int), ys.foldl (· + ·) a = a + ys.foldl (· + ·) 0 := by
    intro ys
    induction ys with
    | nil => intro a; simp
    | cons y ys ih => intro a; rw [List.foldl_cons, List.foldl_cons, ih, ih (0 + y)]; omega
  exact this xs x
theorem sqF_sum {room : Int} : ∀ (L : List Tp), sumI ((sqF room L).map tg) = sumI (L.map tg)
  | [] => rfl
  | t :: rest => by
    have ih := sqF_sum (room := room) rest
    rw [List.map_cons, sumI_cons, ← ih]
    cases h : sqF room rest with
    | nil => simp only [sqF, h, List.map_cons, List.map_nil, sumI_cons]
    | cons b r =>
      rw [sqF_cons _ _ _ _ _ h]
      split
      · simp only [List.map_cons, sumI_cons]; show tg b + tg t + _ = _; omega
      · simp only [List.map_cons, sumI_cons]
theorem TB.sqF {room B : Int} : ∀ {L : List Tp}, TB B L → TB B (sqF room L)
  | [], h => h
  | t :: rest, h => by
    obtain ⟨h1, h2, h3⟩ := h
    have hs : sumI ((Go.Proofs.Ytkkcfbpgcekmjaa.sqF room (t :: rest)).map tg) ≤ B := by rw [sqF_sum]; exact h3
    have h0 := h1 t (List.mem_cons_self ..)
    have ih : TB B (Go.Proofs.Ytkkcfbpgcekmjaa.sqF room rest) := TB.sqF ⟨fun x hx => h1 x (List.mem_cons_of_mem _ hx), fun x hx => h2 x (List.mem_cons_of_mem _ hx), by rw [List.map_cons, sumI_cons] at h3; omega⟩
    obtain ⟨i1, i2, i3⟩ := ih
    refine ⟨?_, ?_, hs⟩
    · intro x hx
      cases h : Go.Proofs.Ytkkcfbpgcekmjaa.sqF room rest with
      | nil => simp only [Go.Proofs.Ytkkcfbpgcekmjaa.sqF, h, List.mem_singleton] at hx; subst hx; exact h0
      | cons b r =>
        rw [h] at i1
        rw [sqF_cons _ _ _ _ _ h] at hx
        have hb := i1 b (List.mem_cons_self ..)
        split at hx
        · rcases List.mem_cons.1 hx with rfl | hx
          · show 0 ≤ tg b + tg t; omega
          · exact i1 x (List.mem_cons_of_mem _ hx)
        · rcases List.mem_cons.1 hx with rfl | hx
          · exact h0
          · exact i1 x hx
    · intro x hx
      have ht := h2 t (List.mem_cons_self ..)
      cases h : Go.Proofs.Ytkkcfbpgcekmjaa.sqF room rest with
      | nil => simp only [Go.Proofs.Ytkkcfbpgcekmjaa.sqF, h, List.mem_singleton] at hx; subst hx; exact ht
      | cons b r =>
        rw [h] at i2
        rw [sqF_cons _ _ _ _ _ h] at hx
        have hb := i2 b (List.mem_cons_self ..)
        split at hx
        · rcases List.mem_cons.1 hx with rfl | hx
          · exact hb
          · exact i2 x (List.mem_cons_of_mem _ hx)
        · rcases List.mem_cons.1 hx with rfl | hx
          · exact ht
          · exact i2 x hx
theorem TB.drop {B : Int} {L : List Tp} (h : TB B L) (k : Nat) : TB B (L.drop k) := by
  induction k generalizing L with
  | zero => exact h
  | succ k ih =>
    cases L with
    | nil => exact h
    | cons t L =>
      obtain ⟨h1, h2, h3⟩ := h
      have h0 := h1 t (List.mem_cons_self ..)
      exact ih ⟨fun x hx => h1 x (List.mem_cons_of_mem _ hx), fun x hx => h2 x (List.mem_cons_of_mem _ hx), by rw [List.map_cons, sumI_cons] at h3; omega⟩
theorem TB.mem {B : Int} : ∀ {L : List Tp}, TB B L → ∀ t ∈ L, tg t ≤ B
  | [], _, t, ht => by cases ht
  | x :: L, ⟨h1, h2, h3⟩, t, ht => by
    rw [List.map_cons, sumI_cons] at h3
    have h0 := h1 x (List.mem_cons_self ..)
    have hs : ∀ (M : List Tp), (∀ t ∈ M, 0 ≤ tg t) → 0 ≤ sumI (M.map tg) := by
      intro M
      induction M with
      | nil => intro _; exact Int.le_refl 0
      | cons y M ih => intro h; rw [List.map_cons, sumI_cons]; have := h y (List.mem_cons_self ..); have := ih fun t ht => h t (List.mem_cons_of_mem _ ht); omega
    have hL := hs L fun t ht => h1 t (List.mem_cons_of_mem _ ht)
    rcases List.mem_cons.1 ht with rfl | ht
    · omega
    · exact TB.mem ⟨fun x hx => h1 x (List.mem_cons_of_mem _ hx), fun x hx => h2 x (List.mem_cons_of_mem _ hx), by omega⟩ t ht
/-- The state from the right: what is not looked at yet, and what is left of the rest. -/
def sqAt (room : Int) (L : List Tp) (i : Nat) : List Tp := L.take (i + 1) ++ sqF room (L.drop (i + 1))
theorem sqAt_start {room : Int} {L : List Tp} {i : Nat} (h : L.length ≤ i + 2) : sqAt room L i = L := by
  unfold sqAt
  have : sqF room (L.drop (i + 1)) = L.drop (i + 1) := by
    match hd : L.drop (i + 1), (by rw [List.length_drop]; omega : (L.drop (i + 1)).length ≤ 1) with
    | [], _ => rfl
    | [t], _ => rfl
  rw [this, List.take_append_drop]
theorem sqAt_end (room : Int) (L : List Tp) : sqAt room L 0 = sqz room L := by
  cases L with
  | nil => rfl
  | cons t r => rfl
theorem sqAt_step {room : Int} {L : List Tp} {i : Nat} (h : i + 1 < L.length - 1) : ∃ t b r, L[i + 1]? = some t ∧ sqAt room L (i + 1) = L.take (i + 1) ++ t :: b :: r ∧
    sqAt room L i = if tg t + tg b + ts b ≤ room then L.take (i + 1) ++ (tv b, tg b + tg t, ts b) :: r else L.take (i + 1) ++ t :: b :: r := by
  have hd : L.drop (i + 1) = L[i + 1] :: L.drop (i + 2) := by rw [List.drop_eq_getElem_cons (by omega)]
  have hn : sqF room (L.drop (i + 2)) ≠ [] := by
    intro e
    rw [sqF_nil] at e
    have := congrArg List.length e
    rw [List.length_drop] at this
    simp at this; omega
  obtain ⟨b, r, hb⟩ : ∃ b r, sqF room (L.drop (i + 2)) = b :: r := by
    cases hh : sqF room (L.drop (i + 2)) with
    | nil => exact absurd hh hn
    | cons b r => exact ⟨b, r, rfl⟩
  refine ⟨L[i + 1], b, r, List.getElem?_eq_getElem (by omega), ?_, ?_⟩
  · have htk : L.take (i + 2) = L.take (i + 1) ++ [L[i + 1]] := by rw [List.take_add_one, List.getElem?_eq_getElem (show i + 1 < L.length by omega)]; rfl
    unfold sqAt
    simp only [show i + 1 + 1 = i + 2 by omega]
    rw [hb, htk, List.append_assoc]; rfl
  · unfold sqAt
    rw [hd, sqF_cons _ _ _ _ _ hb]
    split <;> rfl
/-! The same with marks: whether a tuple is kept, and its gap then. -/
def kg (q : Bool × Tp) : Int := tg q.2
def left (Q : List (Bool × Tp)) : List Tp := (Q.filter fun q => q.1).map fun q => q.2
/-- Behind how many left-out ones the first that is kept stands. -/
def fstK : List (Bool × Tp) → Nat
  | [] => 0
  | q :: Q => if q.1 then 0 else fstK Q + 1
def bump (g : Int) : List (Bool × Tp) → List (Bool × Tp)
  | [] => []
  | q :: Q => if q.1 then (true, (tv q.2, tg q.2 + g, ts q.2)) :: Q else q :: bump g Q
def sqM (room : Int) : List Tp → List (Bool × Tp)
  | [] => []
  | t :: rest => match left (sqM room rest) with
    | [] => (true, t) :: sqM room rest
    | b :: _ => if tg t + tg b + ts b ≤ room then (false, t) :: bump (tg t) (sqM room rest) else (true, t) :: sqM room rest
theorem left_bump (g : Int) : ∀ (Q : List (Bool × Tp)), left (bump g Q) = match left Q with | [] => [] | b :: r => (tv b, tg b + g, ts b) :: r
  | [] => rfl
  | (true, t) :: Q => rfl
  | (false, t) :: Q => by
    have := left_bump g Q
    simp only [bump]
    exact this
theorem left_sqM (room : Int) : ∀ (L : List Tp), left (sqM room L) = sqF room L
  | [] => rfl
  | t :: rest => by
    have ih := left_sqM room rest
    simp only [sqM, sqF]
    rw [← ih]
    cases h : left (sqM room rest) with
    | nil => show t :: left (sqM room rest) = [t]; rw [h]
    | cons b r =>
      simp only
      split
      · show left (bump (tg t) (sqM room rest)) = _
        rw [left_bump, h]
      · show t :: left (sqM room rest) = _
        rw [h]
theorem bump_len (g : Int) : ∀ (Q : List (Bool × Tp)), (bump g Q).length = Q.length
  | [] => rfl
  | (true, t) :: Q => rfl
  | (false, t) :: Q => by simp only [bump]; simpa using bump_len g Q
theorem sqM_len (room : Int) : ∀ (L : List Tp), (sqM room L).length = L.length
  | [] => rfl
  | t :: rest => by
    have ih := sqM_len room rest
    simp only [sqM]
    split
    · simpa using ih
    · split
      · simpa [bump_len] using ih
      · simpa using ih
theorem fstK_ok : ∀ (Q : List (Bool × Tp)) (b : Tp) (r : List Tp), left Q = b :: r → ∃ q, Q[fstK Q]? = some q ∧ q = (true, b)
  | [], b, r, h => by cases h
  | (true, t) :: Q, b, r, h => by
    have : t = b := by have : t :: left Q = b :: r := h; exact (List.cons.inj this).1
    exact ⟨_, rfl, by rw [this]⟩
  | (false, t) :: Q, b, r, h => by
    obtain ⟨q, h1, h2⟩ := fstK_ok Q b r h
    exact ⟨q, by simpa [fstK] using h1, h2⟩
theorem bump_kg (g : Int) : ∀ (Q : List (Bool × Tp)) (b : Tp) (r : List Tp), left Q = b :: r → (bump g Q).map kg = (Q.map kg).set (fstK Q) (tg b + g)
  | [], b, r, h => by cases h
  | (true, t) :: Q, b, r, h => by
    have : t = b := by have : t :: left Q = b :: r := h; exact (List.cons.inj this).1
    subst this; rfl
  | (false, t) :: Q, b, r, h => by
    have := bump_kg g Q b r h
    simp only [bump, fstK, List.map_cons, Bool.false_eq_true, if_false, List.set_cons_succ]
    rw [this]
theorem bump_fst (g : Int) : ∀ (Q : List (Bool × Tp)), (bump g Q).map (fun q => q.1) = Q.map fun q => q.1
  | [] => rfl
  | (true, t) :: Q => rfl
  | (false, t) :: Q => by simp only [bump, Bool.false_eq_true, if_false, List.map_cons]; rw [bump_fst g Q]
theorem bump_fstK (g : Int) : ∀ (Q : List (Bool × Tp)), fstK (bump g Q) = fstK Q
  | [] => rfl
  | (true, t) :: Q => rfl
  | (false, t) :: Q => by simp only [bump, Bool.false_eq_true, if_false, fstK]; rw [bump_fstK g Q]
theorem bump_tv (g : Int) : ∀ (Q : List (Bool × Tp)), (bump g Q).map (fun q => (tv q.2, ts q.2)) = Q.map fun q => (tv q.2, ts q.2)
  | [] => rfl
  | (true, t) :: Q => rfl
  | (false, t) :: Q => by simp only [bump, Bool.false_eq_true, if_false, List.map_cons]; rw [bump_tv g Q]
theorem sqM_tv (room : Int) : ∀ (L : List Tp), (sqM room L).map (fun q => (tv q.2, ts q.2)) = L.map fun t => (tv t, ts t)
  | [] => rfl
  | t :: rest => by
    have ih := sqM_tv room rest
    simp only [sqM]
    split
    · rw [List.map_cons, ih]; rfl
    · split
      · rw [List.map_cons, bump_tv, ih]; rfl
      · rw [List.map_cons, ih]; rfl
/-- All marks: the first is kept in any case. -/
def sqA (room : Int) : List Tp → List (Bool × Tp)
  | [] => []
  | t :: r => (true, t) :: sqM room r
theorem sqA_left (room : Int) (L : List Tp) : left (sqA room L) = sqz room L := by
  cases L with
  | nil => rfl
  | cons t r => show t :: left (sqM room r) = t :: sqF room r; rw [left_sqM]
theorem sqA_len (room : Int) (L : List Tp) : (sqA room L).length = L.length := by
  cases L with
  | nil => rfl
  | cons t r => simpa [sqA] using sqM_len room r
theorem sqA_tv (room : Int) (L : List Tp) : (sqA room L).map (fun q => (tv q.2, ts q.2)) = L.map fun t => (tv t, ts t) := by
  cases L with
  | nil => rfl
  | cons t r => simpa [sqA] using sqM_tv room r
/-- The rows from the right: gaps, marks, the place of the last that is kept. -/
def gAt (room : Int) (L : List Tp) (i : Nat) : List Int := (L.take (i + 1)).map tg ++ (sqM room (L.drop (i + 1))).map kg
def kAt (room : Int) (L : List Tp) (i : Nat) : List Bool := List.replicate (min (i + 1) L.length) true ++ (sqM room (L.drop (i + 1))).map fun q => q.1
def bAt (room : Int) (L : List Tp) (i : Nat) : Nat := i + 1 + fstK (sqM room (L.drop (i + 1)))
theorem gAt_len (room : Int) (L : List Tp) (i : Nat) : (gAt room L i).length = L.length := by unfold gAt; simp [sqM_len]; omega
theorem kAt_len (room : Int) (L : List Tp) (i : Nat) : (kAt room L i).length = L.length := by unfold kAt; simp [sqM_len]; omega
theorem sqM_one {room : Int} {L : List Tp} (h : L.length ≤ 1) : (sqM room L).map kg = L.map tg ∧ (sqM room L).map (fun q => q.1) = List.replicate L.length true ∧ fstK (sqM room L) = 0 := by
  match L, h with
  | [], _ => exact ⟨rfl, rfl, rfl⟩
  | [t], _ => exact ⟨rfl, rfl, rfl⟩
theorem at_start {room : Int} {L : List Tp} {i : Nat} (h : L.length ≤ i + 2) : gAt room L i = L.map tg ∧ kAt room L i = List.replicate L.length true ∧ bAt room L i = i + 1 := by
  obtain ⟨a, b, c⟩ := sqM_one (room := room) (L := L.drop (i + 1)) (by rw [List.length_drop]; omega)
  unfold gAt kAt bAt
  rw [a, b, c]
  refine ⟨by rw [← List.map_append, List.take_append_drop], ?_, rfl⟩
  rw [List.replicate_append_replicate, List.length_drop]
  congr 1; omega
theorem at_end {room : Int} {L : List Tp} (h : L ≠ []) : gAt room L 0 = (sqA room L).map kg ∧ kAt room L 0 = (sqA room L).map fun q => q.1 := by
  cases L with
  | nil => exact absurd rfl h
  | cons t r => exact ⟨rfl, by unfold kAt sqA; simp⟩
theorem at_step {room : Int} {L : List Tp} {i : Nat} (h : i + 1 < L.length - 1) : ∃ t b s, L[i + 1]? = some t ∧ (gAt room L (i + 1))[i + 1]? = some (tg t) ∧ (gAt room L (i + 1))[bAt room L (i + 1)]? = some (tg b) ∧ (L.map ts)[bAt room L (i + 1)]? = some (ts b) ∧ bAt room L (i + 1) < L.length ∧ i + 1 < bAt room L (i + 1) ∧ b ∈ sqF room (L.drop (i + 2)) ∧ s = tg t + tg b + ts b ∧
    (s ≤ room → gAt room L i = (gAt room L (i + 1)).set (bAt room L (i + 1)) (tg b + tg t) ∧ kAt room L i = (kAt room L (i + 1)).set (i + 1) false ∧ bAt room L i = bAt room L (i + 1)) ∧
    (¬ s ≤ room → gAt room L i = gAt room L (i + 1) ∧ kAt room L i = kAt room L (i + 1) ∧ bAt room L i = i + 1) := by
  have hlt : i + 1 < L.length := by omega
  obtain ⟨t, ht⟩ : ∃ t, L[i + 1] = t := ⟨_, rfl⟩
  have hd : L.drop (i + 1) = t :: L.drop (i + 2) := by rw [List.drop_eq_getElem_cons hlt, ht]
  have htk : L.take (i + 2) = L.take (i + 1) ++ [t] := by rw [List.take_add_one, List.getElem?_eq_getElem hlt, ht]; rfl
  have hn : left (sqM room (L.drop (i + 2))) ≠ [] := by
    intro e
    rw [left_sqM, sqF_nil] at e
    have := congrArg List.length e
    rw [List.length_drop] at this
    simp at this; omega
  obtain ⟨b, r, hb⟩ : ∃ b r, left (sqM room (L.drop (i + 2))) = b :: r := by
    cases hh : left (sqM room (L.drop (i + 2))) with
    | nil => exact absurd hh hn
    | cons b r => exact ⟨b, r, rfl⟩
  obtain ⟨Q, hQ⟩ : ∃ Q, sqM room (L.drop (i + 2)) = Q := ⟨_, rfl⟩
  have hQl : Q.length = L.length - (i + 2) := by rw [← hQ, sqM_len, List.length_drop]
  obtain ⟨q, hq, rfl⟩ := fstK_ok Q b r (by rw [← hQ]; exact hb)
  have hfl : fstK Q < Q.length := by
    rcases Nat.lt_or_ge (fstK Q) Q.length with h | h
    · exact h
    · rw [List.getElem?_eq_none h] at hq; cases hq
  have hmin : min (i + 1 + 1) L.length = i + 1 + 1 := by omega
  have hmin' : min (i + 1) L.length = i + 1 := by omega
  have htl : ((L.take (i + 1)).map tg).length = i + 1 := by simp; omega
  have hg1 : gAt room L (i + 1) = (L.take (i + 1)).map tg ++ (tg t :: Q.map kg) := by unfold gAt; rw [show i + 1 + 1 = i + 2 by omega, hQ, htk]; simp
  have hk1 : kAt room L (i + 1) = List.replicate (i + 1) true ++ (true :: Q.map fun q => q.1) := by
    unfold kAt
    rw [hmin, show i + 1 + 1 = i + 2 by omega, hQ, show List.replicate (i + 2) true = List.replicate (i + 1) true ++ [true] from List.replicate_succ' ..]; simp
  have hb1 : bAt room L (i + 1) = i + 1 + (fstK Q + 1) := by unfold bAt; rw [show i + 1 + 1 = i + 2 by omega, hQ]; omega
  have hM : sqM room (L.drop (i + 1)) = if tg t + tg b + ts b ≤ room then (false, t) :: bump (tg t) Q else (true, t) :: Q := by
    rw [hd]
    simp only [sqM, hQ]
    rw [hQ] at hb
    rw [hb]
  have hts : (L.map ts)[i + 1 + (fstK Q + 1)]? = some (ts b) := by
    have h1 := sqM_tv room (L.drop (i + 2))
    rw [hQ] at h1
    have h2 := congrArg (fun l => l[fstK Q]?) h1
    simp only [List.getElem?_map, hq, Option.map_some, List.getElem?_drop] at h2
    rw [List.getElem?_map, show i + 1 + (fstK Q + 1) = i + 2 + fstK Q by omega]
    cases hh : L[i + 2 + fstK Q]? with
    | none => rw [hh] at h2; cases h2
    | some u =>
      rw [hh] at h2
      simp only [Option.map_some, Option.some.injEq, Prod.mk.injEq] at h2
      rw [Option.map_some, ← h2.2]
  refine ⟨t, b, _, by rw [List.getElem?_eq_getElem hlt, ht], ?_, ?_, by rw [hb1]; exact hts, by rw [hb1]; omega, by rw [hb1]; omega, ?_, rfl, ?_, ?_⟩
  · rw [hg1, List.getElem?_append_right (by omega), htl, Nat.sub_self]; rfl
  · rw [hg1, hb1, List.getElem?_append_right (by omega), htl, Nat.add_sub_cancel_left, List.getElem?_cons_succ, List.getElem?_map, hq]; rfl
  · rw [← left_sqM, hb]; exact List.mem_cons_self ..
  · intro hs
    rw [if_pos hs] at hM
    refine ⟨?_, ?_, ?_⟩
    · rw [hg1, hb1]
      unfold gAt
      rw [hM, List.map_cons, bump_kg _ Q b r (by rw [← hQ]; exact hb), List.set_append_right _ _ (by omega), htl, Nat.add_sub_cancel_left]; rfl
    · rw [hk1]
      unfold kAt
      rw [hM, hmin', List.map_cons, bump_fst, List.set_append_right _ _ (by simp), List.length_replicate, Nat.sub_self]; rfl
    · rw [hb1]
      unfold bAt
      rw [hM]
      simp only [fstK, Bool.false_eq_true, if_false, bump_fstK]
  · intro hs
    rw [if_neg hs] at hM
    refine ⟨?_, ?_, ?_⟩
    · rw [hg1]; unfold gAt; rw [hM]; rfl
    · rw [hk1]; unfold kAt; rw [hM, hmin']; rfl
    · unfold bAt; rw [hM]; rfl
end Go.Proofs.Ytkkcfbpgcekmjaa
