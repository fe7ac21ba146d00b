/- Stable sorting, plainly. -/
import Derived.Test.YteejnmgjjefbiaaZo
import Derived.Test.YteejnmgjjefbiaaZp
namespace Go.Proofs.Yteejnmgjjefbiaa
set_option linter.unusedSimpArgs false
set_option linter.unusedVariables false
set_option linter.unusedSectionVars false

section
variable {α : Type} (key : α → Int)
def cls (c : Int) (xs : List α) : List α := xs.filter fun x => key x == c
def Asc (xs : List α) : Prop := xs.Pairwise fun a b => key a ≤ key b
def ins (a : α) : List α → List α
  | [] => [a]
  | b :: l => if key a ≤ key b then a :: b :: l else b :: ins a l
def srt : List α → List α
  | [] => []
  | a :: l => ins key a (srt l)
variable {key}
theorem cls_nil (c : Int) : cls key c [] = [] := rfl
theorem cls_app (c : Int) (xs ys : List α) : cls key c (xs ++ ys) = cls key c xs ++ cls key c ys := by simp [cls]
theorem cls_cons (c : Int) (a : α) (l : List α) : cls key c (a :: l) = cls key c [a] ++ cls key c l := cls_app c [a] l
theorem cls_one (c : Int) (a : α) : cls key c [a] = if key a = c then [a] else [] := by
  unfold cls; by_cases h : key a = c <;> simp [h]
theorem cls_none {c : Int} {xs : List α} (h : ∀ x ∈ xs, key x ≠ c) : cls key c xs = [] := by
  unfold cls
  rw [List.filter_eq_nil_iff]
  intro x hx
  simpa using h x hx
theorem cls_mem {x : α} {xs : List α} (h : x ∈ xs) : x ∈ cls key (key x) xs := by
  unfold cls; rw [List.mem_filter]; exact ⟨h, by simp⟩
theorem mem_of_cls {c : Int} {x : α} {xs : List α} (h : x ∈ cls key c xs) : x ∈ xs ∧ key x = c := by
  unfold cls at h; rw [List.mem_filter] at h; exact ⟨h.1, by simpa using h.2⟩
/-- What stands side by side with no class in common may change places. -/
theorem cls_swap (c : Int) {us vs : List α} (h : ∀ u ∈ us, ∀ v ∈ vs, key u ≠ key v) : cls key c (us ++ vs) = cls key c (vs ++ us) := by
  rw [cls_app, cls_app]
  by_cases hu : ∃ u ∈ us, key u = c
  · obtain ⟨u, h1, h2⟩ := hu
    have : cls key c vs = [] := cls_none fun v hv e => h u h1 v hv (by rw [h2, e])
    rw [this]; simp
  · have : cls key c us = [] := cls_none fun u hu' e => hu ⟨u, hu', e⟩
    rw [this]; simp
theorem srt_uniq : ∀ {xs ys : List α}, Asc key xs → Asc key ys → (∀ c, cls key c xs = cls key c ys) → xs = ys
  | [], [], _, _, _ => rfl
  | [], y :: ys, _, _, h => by
    have h1 : y ∈ cls key (key y) (y :: ys) := cls_mem (by simp)
    rw [← h] at h1; cases h1
  | x :: xs, [], _, _, h => by
    have h1 : x ∈ cls key (key x) (x :: xs) := cls_mem (by simp)
    rw [h] at h1; cases h1
  | x :: xs, y :: ys, hx, hy, h => by
    have hx1 := List.pairwise_cons.1 hx
    have hy1 := List.pairwise_cons.1 hy
    have k1 : key y ≤ key x := by
      have h1 : x ∈ cls key (key x) (x :: xs) := cls_mem (by simp)
      rw [h] at h1
      rcases List.mem_cons.1 (mem_of_cls h1).1 with rfl | h2
      · exact Int.le_refl _
      · exact hy1.1 _ h2
    have k2 : key x ≤ key y := by
      have h1 : y ∈ cls key (key y) (y :: ys) := cls_mem (by simp)
      rw [← h] at h1
      rcases List.mem_cons.1 (mem_of_cls h1).1 with rfl | h2
      · exact Int.le_refl _
      · exact hx1.1 _ h2
    have hk : key x = key y := by omega
    have hxy : x = y := by
      have h1 := h (key x)
      rw [cls_cons, cls_cons _ y, cls_one, cls_one, if_pos rfl, if_pos hk.symm] at h1
      exact (List.cons.inj h1).1
    subst hxy
    have : xs = ys := srt_uniq hx1.2 hy1.2 fun c => by
      have h1 := h c
      rw [cls_cons, cls_cons _ _ ys] at h1
      exact List.append_cancel_left h1
    rw [this]
theorem ins_cls (c : Int) (a : α) : ∀ l : List α, cls key c (ins key a l) = cls key c (a :: l)
  | [] => rfl
  | b :: l => by
    unfold ins
    split
    · rfl
    · rename_i h
      have e := cls_swap c (us := [b]) (vs := [a]) (key := key) (fun u hu v hv => by rw [List.mem_singleton.1 hu, List.mem_singleton.1 hv]; omega)
      rw [cls_app, cls_app] at e
      rw [cls_cons c b, ins_cls c a l, cls_cons c a l, cls_cons c a (b :: l), cls_cons c b l, ← List.append_assoc, ← List.append_assoc, e]
theorem mem_ins {a x : α} : ∀ {l : List α}, x ∈ ins key a l ↔ x = a ∨ x ∈ l
  | [] => by simp [ins]
  | b :: l => by
    unfold ins
    split
    · simp
    · rw [List.mem_cons, mem_ins, List.mem_cons]
      constructor
      · rintro (h | h | h) <;> simp [h]
      · rintro (h | h | h) <;> simp [h]
theorem ins_asc {a : α} : ∀ {l : List α}, Asc key l → Asc key (ins key a l)
  | [], _ => by simp [ins, Asc]
  | b :: l, h => by
    unfold ins
    have h1 := List.pairwise_cons.1 h
    split
    · rename_i hab
      refine List.pairwise_cons.2 ⟨fun x hx => ?_, h⟩
      rcases List.mem_cons.1 hx with rfl | hx
      · exact hab
      · exact Int.le_trans hab (h1.1 x hx)
    · rename_i hab
      refine List.pairwise_cons.2 ⟨fun x hx => ?_, ins_asc h1.2⟩
      rcases mem_ins.1 hx with rfl | hx
      · omega
      · exact h1.1 x hx
theorem srt_asc : ∀ (l : List α), Asc key (srt key l)
  | [] => List.Pairwise.nil
  | a :: l => ins_asc (srt_asc l)
theorem srt_cls (c : Int) : ∀ (l : List α), cls key c (srt key l) = cls key c l
  | [] => rfl
  | a :: l => by rw [srt, ins_cls, cls_cons, srt_cls c l, ← cls_cons]
theorem mem_srt {x : α} : ∀ {l : List α}, x ∈ srt key l ↔ x ∈ l
  | [] => by simp [srt]
  | a :: l => by rw [srt, mem_ins, mem_srt, List.mem_cons]
theorem ins_len {a : α} : ∀ {l : List α}, (ins key a l).length = l.length + 1
  | [] => rfl
  | b :: l => by
    unfold ins
    split
    · rfl
    · rw [List.length_cons, ins_len, List.length_cons]
theorem srt_len : ∀ {l : List α}, (srt key l).length = l.length
  | [] => rfl
  | a :: l => by rw [srt, ins_len, srt_len]; rfl
theorem srt_eq {xs ys : List α} (h : Asc key ys) (hc : ∀ c, cls key c ys = cls key c xs) : ys = srt key xs :=
  srt_uniq h (srt_asc xs) fun c => by rw [hc, srt_cls]
theorem srt_of_asc {xs : List α} (h : Asc key xs) : srt key xs = xs := (srt_eq h fun _ => rfl).symm
theorem asc_app {us vs : List α} (h1 : Asc key us) (h2 : Asc key vs) (h : ∀ u ∈ us, ∀ v ∈ vs, key u ≤ key v) : Asc key (us ++ vs) := List.pairwise_append.2 ⟨h1, h2, h⟩
theorem asc_app_inv {us vs : List α} (h : Asc key (us ++ vs)) : Asc key us ∧ Asc key vs ∧ ∀ u ∈ us, ∀ v ∈ vs, key u ≤ key v := List.pairwise_append.1 h
theorem asc_take {xs : List α} (h : Asc key xs) (k : Nat) : Asc key (xs.take k) := h.sublist (List.take_sublist _ _)
theorem asc_drop {xs : List α} (h : Asc key xs) (k : Nat) : Asc key (xs.drop k) := h.sublist (List.drop_sublist _ _)
/-- Two parts, sorted each, all of the one at most all of the other. -/
theorem srt_two {us vs : List α} (h : ∀ u ∈ us, ∀ v ∈ vs, key u ≤ key v) : srt key us ++ srt key vs = srt key (us ++ vs) :=
  srt_eq (asc_app (srt_asc us) (srt_asc vs) fun u hu v hv => h u (mem_srt.1 hu) v (mem_srt.1 hv)) fun c => by rw [cls_app, cls_app, srt_cls, srt_cls]
/-- An element put where it belongs. -/
theorem srt_put {S : List α} {x : α} {k : Nat} (hS : Asc key S) (h1 : ∀ s ∈ S.take k, key s ≤ key x) (h2 : ∀ s ∈ S.drop k, key x < key s) : S.take k ++ x :: S.drop k = srt key (S ++ [x]) := by
  refine srt_eq (asc_app (asc_take hS k) (List.pairwise_cons.2 ⟨fun s hs => Int.le_of_lt (h2 s hs), asc_drop hS k⟩) fun u hu v hv => ?_) fun c => ?_
  · rcases List.mem_cons.1 hv with rfl | hv
    · exact h1 u hu
    · exact Int.le_trans (h1 u hu) (Int.le_of_lt (h2 v hv))
  · rw [cls_app, show x :: S.drop k = [x] ++ S.drop k from rfl, cls_swap c (us := [x]) (vs := S.drop k) (fun u hu v hv => by rw [List.mem_singleton.1 hu]; have := h2 v hv; omega), ← cls_app, ← List.append_assoc, List.take_append_drop]
theorem srt_put' {S : List α} {x : α} {k : Nat} (hS : Asc key S) (h1 : ∀ s ∈ S.take k, key s < key x) (h2 : ∀ s ∈ S.drop k, key x ≤ key s) : S.take k ++ x :: S.drop k = srt key (x :: S) := by
  refine srt_eq (asc_app (asc_take hS k) (List.pairwise_cons.2 ⟨fun s hs => h2 s hs, asc_drop hS k⟩) fun u hu v hv => ?_) fun c => ?_
  · rcases List.mem_cons.1 hv with rfl | hv
    · exact Int.le_of_lt (h1 u hu)
    · exact Int.le_trans (Int.le_of_lt (h1 u hu)) (h2 v hv)
  · rw [show S.take k ++ x :: S.drop k = S.take k ++ [x] ++ S.drop k by simp, cls_app, cls_swap c (us := S.take k) (vs := [x]) (fun u hu v hv => by rw [List.mem_singleton.1 hv]; have := h1 u hu; omega), ← cls_app, List.append_assoc, List.take_append_drop]; rfl
theorem srt_app_srt {us vs : List α} : srt key (srt key us ++ vs) = srt key (us ++ vs) := srt_eq (srt_asc _) fun c => by rw [srt_cls, cls_app, srt_cls, cls_app]
/-- A part of a list. -/
def rg (xs : List α) (a b : Nat) : List α := (xs.drop a).take (b - a)
theorem rg_len {xs : List α} {a b : Nat} (h : b ≤ xs.length) : (rg xs a b).length = b - a := by unfold rg; simp; omega
theorem rg_split (xs : List α) {a m b : Nat} (h1 : a ≤ m) (h2 : m ≤ b) : rg xs a b = rg xs a m ++ rg xs m b := by
  unfold rg
  rw [show b - a = (m - a) + (b - m) by omega, List.take_add, List.drop_drop, show a + (m - a) = m by omega]
theorem rg_all (xs : List α) {a b : Nat} (h1 : a ≤ b) : xs.take a ++ rg xs a b ++ xs.drop b = xs := by
  unfold rg
  have : xs.drop b = (xs.drop a).drop (b - a) := by rw [List.drop_drop, show a + (b - a) = b by omega]
  rw [this, List.append_assoc, List.take_append_drop, List.take_append_drop]
end
end Go.Proofs.Yteejnmgjjefbiaa
namespace Go.Proofs.Yteejnmgjjefbiaa
set_option linter.unusedSimpArgs false
set_option linter.unusedVariables false
set_option linter.unusedSectionVars false

section
variable {α : Type} [Inhabited α]
/-- Two places change what they hold. -/
def swp (D : List α) (p q : Nat) : List α := (D.set p (ix D q)).set q (ix D p)
theorem swp_len (D : List α) (p q : Nat) : (swp D p q).length = D.length := by simp [swp]
theorem ix_mid (A : List α) (u : α) (C : List α) : ix (A ++ u :: C) A.length = u := by
  rw [ix_eq _ _ (by simp)]; simp
theorem ix_mid' (A : List α) (u : α) (C : List α) {n : Nat} (h : n = A.length) : ix (A ++ u :: C) n = u := by subst h; exact ix_mid A u C
theorem set_mid (A : List α) (u v : α) (C : List α) : (A ++ u :: C).set A.length v = A ++ v :: C := by simp
theorem swp_two (A : List α) (u : α) (B : List α) (v : α) (C : List α) {p q : Nat} (hp : p = A.length) (hq : q = A.length + 1 + B.length) : swp (A ++ u :: (B ++ v :: C)) p q = A ++ v :: (B ++ u :: C) := by
  subst hp
  unfold swp
  have e1 : A ++ u :: (B ++ v :: C) = (A ++ u :: B) ++ v :: C := by simp
  have e2 : ix (A ++ u :: (B ++ v :: C)) q = v := by rw [e1]; exact ix_mid' _ _ _ (by simp; omega)
  rw [ix_mid, e2, set_mid]
  have e3 : A ++ v :: (B ++ v :: C) = (A ++ v :: B) ++ v :: C := by simp
  have e4 : q = (A ++ v :: B).length := by simp; omega
  rw [e3, e4, set_mid]; simp
theorem swp_two' (A : List α) (u : α) (B : List α) (v : α) (C : List α) {p q : Nat} (hp : p = A.length) (hq : q = A.length + 1 + B.length) : swp (A ++ u :: (B ++ v :: C)) q p = A ++ v :: (B ++ u :: C) := by
  rw [← swp_two A u B v C hp hq]
  unfold swp
  rw [List.set_comm _ _ (by omega)]
theorem ix_map {β : Type} [Inhabited β] (f : α → β) (xs : List α) (k : Nat) (h : k < xs.length) : ix (xs.map f) k = f (ix xs k) := by
  rw [ix_eq _ _ (by simpa using h), ix_eq _ _ h]; simp
theorem drop_ix (xs : List α) (k : Nat) (h : k < xs.length) : xs.drop k = ix xs k :: xs.drop (k + 1) := by
  rw [ix_eq _ _ h]; exact List.drop_eq_getElem_cons h
theorem take_ix' (xs : List α) (k : Nat) (h : k < xs.length) : xs.take (k + 1) = xs.take k ++ [ix xs k] := by
  rw [ix_eq _ _ h]; exact List.take_succ_eq_append_getElem h
theorem ix_app_l (A B : List α) (k : Nat) (h : k < A.length) : ix (A ++ B) k = ix A k := by
  rw [ix_eq _ _ (by simp; omega), ix_eq _ _ h, List.getElem_append_left h]
theorem ix_app_r (A B : List α) (k : Nat) (h : k < B.length) {n : Nat} (hn : n = A.length + k) : ix (A ++ B) n = ix B k := by
  subst hn
  rw [ix_eq _ _ (by simp; omega), ix_eq _ _ h, List.getElem_append_right (by omega)]
  congr 1; omega

/-! An element that moves through a list. -/
def mv (P S R : List α) (x : α) (t : Nat) : List α := P ++ (S.take t ++ x :: S.drop t) ++ R
theorem mv_len (P S R : List α) (x : α) (t : Nat) (h : t ≤ S.length) : (mv P S R x t).length = P.length + S.length + 1 + R.length := by
  unfold mv; simp; omega
theorem mv_at (P S R : List α) (x : α) (t : Nat) (h : t ≤ S.length) {n : Nat} (hn : n = P.length + t) : ix (mv P S R x t) n = x := by
  unfold mv
  rw [show P ++ (S.take t ++ x :: S.drop t) ++ R = (P ++ S.take t) ++ x :: (S.drop t ++ R) by simp]
  exact ix_mid' _ _ _ (by simp; omega)
theorem mv_below (P S R : List α) (x : α) (t : Nat) (h : t < S.length) {n : Nat} (hn : n = P.length + t) : ix (mv P S R x (t + 1)) n = ix S t := by
  unfold mv
  rw [take_ix' _ _ h, show P ++ (S.take t ++ [ix S t] ++ x :: S.drop (t + 1)) ++ R = (P ++ S.take t) ++ ix S t :: (x :: S.drop (t + 1) ++ R) by simp]
  exact ix_mid' _ _ _ (by simp; omega)
theorem mv_down (P S R : List α) (x : α) (t : Nat) (h : t < S.length) {p q : Nat} (hp : p = P.length + t) (hq : q = P.length + t + 1) : swp (mv P S R x (t + 1)) q p = mv P S R x t := by
  unfold mv
  rw [take_ix' _ _ h, drop_ix S t h, show P ++ (S.take t ++ [ix S t] ++ x :: S.drop (t + 1)) ++ R = (P ++ S.take t) ++ ix S t :: ([] ++ x :: (S.drop (t + 1) ++ R)) by simp,
    swp_two' _ _ _ _ _ (by simp; omega) (by simp; omega)]
  simp
theorem mv_up (P S R : List α) (x : α) (t : Nat) (h : t < S.length) {p q : Nat} (hp : p = P.length + t) (hq : q = P.length + t + 1) : swp (mv P S R x t) p q = mv P S R x (t + 1) := by
  unfold mv
  rw [take_ix' _ _ h, drop_ix S t h, show P ++ (S.take t ++ x :: ix S t :: S.drop (t + 1)) ++ R = (P ++ S.take t) ++ x :: ([] ++ ix S t :: (S.drop (t + 1) ++ R)) by simp,
    swp_two _ _ _ _ _ (by simp; omega) (by simp; omega)]
  simp

/-! Two ranges that change places. -/
def xch (P U M V R : List α) (i : Nat) : List α := P ++ (V.take i ++ U.drop i) ++ M ++ (U.take i ++ V.drop i) ++ R
theorem xch_step (P U M V R : List α) (i : Nat) (hu : i < U.length) (hv : U.length = V.length) {p q : Nat} (hp : p = P.length + i) (hq : q = P.length + U.length + M.length + i) : swp (xch P U M V R i) p q = xch P U M V R (i + 1) := by
  unfold xch
  rw [drop_ix U i hu, drop_ix V i (by omega), take_ix' U i hu, take_ix' V i (by omega)]
  have e1 : P ++ (V.take i ++ ix U i :: U.drop (i + 1)) ++ M ++ (U.take i ++ ix V i :: V.drop (i + 1)) ++ R = (P ++ V.take i) ++ ix U i :: ((U.drop (i + 1) ++ M ++ U.take i) ++ ix V i :: (V.drop (i + 1) ++ R)) := by simp
  rw [e1, swp_two _ _ _ _ _ (by simp; omega) (by simp; omega)]
  simp
theorem xch_len (P U M V R : List α) (i : Nat) (hv : U.length = V.length) (h : i ≤ U.length) : (xch P U M V R i).length = P.length + U.length + M.length + V.length + R.length := by
  unfold xch; simp; omega
theorem xch_0 (P U M V R : List α) : xch P U M V R 0 = P ++ U ++ M ++ V ++ R := by simp [xch]
theorem xch_all (P U M V R : List α) (hv : U.length = V.length) : xch P U M V R U.length = P ++ V ++ M ++ U ++ R := by
  unfold xch; rw [List.take_length, List.drop_length, hv, List.take_length, List.drop_length]; simp
theorem xch_u (P U M V R : List α) (i : Nat) (hu : i < U.length) (hv : U.length = V.length) {p : Nat} (hp : p = P.length + i) : ix (xch P U M V R i) p = ix U i := by
  unfold xch
  rw [drop_ix U i hu, show P ++ (V.take i ++ ix U i :: U.drop (i + 1)) ++ M ++ (U.take i ++ V.drop i) ++ R = (P ++ V.take i) ++ ix U i :: (U.drop (i + 1) ++ M ++ (U.take i ++ V.drop i) ++ R) by simp]
  exact ix_mid' _ _ _ (by simp; omega)
theorem xch_v (P U M V R : List α) (i : Nat) (hu : i < U.length) (hv : U.length = V.length) {q : Nat} (hq : q = P.length + U.length + M.length + i) : ix (xch P U M V R i) q = ix V i := by
  unfold xch
  rw [drop_ix V i (by omega), show P ++ (V.take i ++ U.drop i) ++ M ++ (U.take i ++ ix V i :: V.drop (i + 1)) ++ R = (P ++ (V.take i ++ U.drop i) ++ M ++ U.take i) ++ ix V i :: (V.drop (i + 1) ++ R) by simp]
  exact ix_mid' _ _ _ (by simp; omega)

/-! Ascending lists by their places. -/
variable {key : α → Int}
theorem asc_of_ix : ∀ {xs : List α}, (∀ i, i + 1 < xs.length → key (ix xs i) ≤ key (ix xs (i + 1))) → Asc key xs
  | [], _ => List.Pairwise.nil
  | [a], _ => List.pairwise_singleton _ _
  | a :: b :: l, h => by
    have ih : Asc key (b :: l) := asc_of_ix fun i hi => h (i + 1) (by simp at hi ⊢; omega)
    refine List.pairwise_cons.2 ⟨fun x hx => ?_, ih⟩
    have h0 : key a ≤ key b := h 0 (by simp)
    rcases List.mem_cons.1 hx with rfl | hx
    · exact h0
    · exact Int.le_trans h0 ((List.pairwise_cons.1 ih).1 x hx)
theorem asc_ix {xs : List α} (h : Asc key xs) {i j : Nat} (hij : i ≤ j) (hj : j < xs.length) : key (ix xs i) ≤ key (ix xs j) := by
  rcases Nat.lt_or_ge i j with h1 | h1
  · rw [ix_eq _ _ (by omega), ix_eq _ _ hj]
    exact List.pairwise_iff_getElem.1 h i j (by omega) hj h1
  · rw [show i = j by omega]; exact Int.le_refl _
theorem rg_ix (xs : List α) {a b i : Nat} (hb : b ≤ xs.length) (hi : a + i < b) : ix (rg xs a b) i = ix xs (a + i) := by
  rw [ix_eq _ _ (by rw [rg_len hb]; omega), ix_eq _ _ (by omega)]
  simp [rg]
theorem asc_rg {xs : List α} {a b : Nat} (hb : b ≤ xs.length) (h : ∀ i, a ≤ i → i + 1 < b → key (ix xs i) ≤ key (ix xs (i + 1))) : Asc key (rg xs a b) :=
  asc_of_ix fun i hi => by
    rw [rg_len hb] at hi
    rw [rg_ix xs hb (by omega), rg_ix xs hb (by omega)]
    exact h (a + i) (by omega) (by omega)
theorem rg_asc {xs : List α} {a b : Nat} (hb : b ≤ xs.length) (h : Asc key (rg xs a b)) {i j : Nat} (h1 : a ≤ i) (h2 : i ≤ j) (h3 : j < b) : key (ix xs i) ≤ key (ix xs j) := by
  have := asc_ix h (i := i - a) (j := j - a) (by omega) (by rw [rg_len hb]; omega)
  rw [rg_ix xs hb (by omega), rg_ix xs hb (by omega), show a + (i - a) = i by omega, show a + (j - a) = j by omega] at this
  exact this
theorem rg_app_l (A B : List α) {a b : Nat} (h : b ≤ A.length) : rg (A ++ B) a b = rg A a b := by
  unfold rg
  rcases Nat.lt_or_ge b a with h1 | h1
  · rw [show b - a = 0 by omega]; simp
  · rw [List.drop_append_of_le_length (by omega), List.take_append_of_le_length (by simp; omega)]
theorem rg_app_r (A B : List α) {a b n : Nat} (hn : n = A.length) (h : n ≤ a) : rg (A ++ B) a b = rg B (a - n) (b - n) := by
  subst hn
  unfold rg
  rw [List.drop_append, List.drop_eq_nil_of_le h, List.nil_append, show b - a = b - A.length - (a - A.length) by omega]
theorem rg_zero (xs : List α) {n : Nat} (h : n = xs.length) : rg xs 0 n = xs := by subst h; simp [rg]
theorem rg_take (xs : List α) (b : Nat) : rg xs 0 b = xs.take b := by simp [rg]
end
end Go.Proofs.Yteejnmgjjefbiaa
namespace Go.Proofs.Yteejnmgjjefbiaa
set_option linter.unusedSimpArgs false
set_option linter.unusedVariables false
set_option linter.unusedSectionVars false

section
variable {α : Type} [Inhabited α] {key : α → Int}
theorem srt_congr {xs ys : List α} (h : ∀ c, cls key c xs = cls key c ys) : srt key xs = srt key ys := srt_eq (srt_asc xs) fun c => by rw [srt_cls, h]
theorem mem_take_ix {xs : List α} {s : Nat} {u : α} (h : u ∈ xs.take s) : ∃ i, i < s ∧ i < xs.length ∧ ix xs i = u := by
  obtain ⟨i, hi, rfl⟩ := List.getElem_of_mem h
  rw [List.length_take] at hi
  exact ⟨i, by omega, by omega, by rw [ix_eq _ _ (by omega)]; simp⟩
theorem mem_drop_ix {xs : List α} {s : Nat} {u : α} (h : u ∈ xs.drop s) : ∃ i, s ≤ i ∧ i < xs.length ∧ ix xs i = u := by
  obtain ⟨i, hi, rfl⟩ := List.getElem_of_mem h
  rw [List.length_drop] at hi
  exact ⟨s + i, by omega, by omega, by rw [ix_eq _ _ (by omega)]; simp⟩
theorem sym_join {X Y : List α} {s e : Nat} (hs : s ≤ X.length) (he : e ≤ Y.length) (hX : Asc key X) (hY : Asc key Y)
    (h1 : s < X.length → 0 < e → key (ix Y (e - 1)) < key (ix X s)) (h2 : 0 < s → e < Y.length → key (ix X (s - 1)) ≤ key (ix Y e)) :
    srt key (X.take s ++ Y.take e) ++ srt key (X.drop s ++ Y.drop e) = srt key (X ++ Y) := by
  have bc : ∀ u ∈ Y.take e, ∀ v ∈ X.drop s, key u < key v := by
    intro u hu v hv
    obtain ⟨j, j1, j2, rfl⟩ := mem_take_ix hu
    obtain ⟨i, i1, i2, rfl⟩ := mem_drop_ix hv
    have k1 := asc_ix hY (i := j) (j := e - 1) (by omega) (by omega)
    have k2 := asc_ix hX (i := s) (j := i) i1 i2
    have k3 := h1 (by omega) (by omega)
    omega
  rw [srt_two]
  · refine srt_congr fun c => ?_
    have e1 : X.take s ++ Y.take e ++ (X.drop s ++ Y.drop e) = X.take s ++ (Y.take e ++ X.drop s) ++ Y.drop e := by simp
    rw [e1, cls_app, cls_app, cls_swap c (us := Y.take e) (vs := X.drop s) (fun u hu v hv => by have := bc u hu v hv; omega), ← cls_app, ← cls_app]
    rw [show X.take s ++ (X.drop s ++ Y.take e) ++ Y.drop e = (X.take s ++ X.drop s) ++ (Y.take e ++ Y.drop e) by simp only [List.append_assoc], List.take_append_drop, List.take_append_drop]
  · intro u hu v hv
    rcases List.mem_append.1 hu with hu | hu
    · obtain ⟨i, i1, i2, rfl⟩ := mem_take_ix hu
      rcases List.mem_append.1 hv with hv | hv
      · obtain ⟨j, j1, j2, rfl⟩ := mem_drop_ix hv
        exact asc_ix hX (by omega) j2
      · obtain ⟨j, j1, j2, rfl⟩ := mem_drop_ix hv
        have k1 := asc_ix hX (i := i) (j := s - 1) (by omega) (by omega)
        have k2 := asc_ix hY (i := e) (j := j) j1 j2
        have k3 := h2 (by omega) (by omega)
        omega
    · rcases List.mem_append.1 hv with hv | hv
      · exact Int.le_of_lt (bc u hu v hv)
      · obtain ⟨i, i1, i2, rfl⟩ := mem_take_ix hu
        obtain ⟨j, j1, j2, rfl⟩ := mem_drop_ix hv
        exact asc_ix hY (by omega) j2

/-! A part that is put in order. -/
def upd (key : α → Int) (D : List α) (a b : Nat) : List α := D.take a ++ srt key (rg D a b) ++ D.drop b
theorem upd_len {D : List α} {a b : Nat} (h1 : a ≤ b) (h2 : b ≤ D.length) : (upd key D a b).length = D.length := by
  unfold upd; simp [srt_len, rg_len h2]; omega
theorem upd_cls {D : List α} {a b : Nat} (h1 : a ≤ b) (c : Int) : cls key c (upd key D a b) = cls key c D := by
  unfold upd
  rw [cls_app, cls_app, srt_cls, ← cls_app, ← cls_app, rg_all D h1]
theorem upd_lo {D : List α} {a b i : Nat} (h1 : a ≤ b) (h2 : b ≤ D.length) (h : i < a) : ix (upd key D a b) i = ix D i := by
  unfold upd
  rw [List.append_assoc, ix_app_l _ _ _ (by simp; omega), ix_eq _ _ (by simp; omega), ix_eq _ _ (by omega)]; simp
theorem upd_hi {D : List α} {a b i : Nat} (h1 : a ≤ b) (h2 : b ≤ D.length) (h : b ≤ i) (hi : i < D.length) : ix (upd key D a b) i = ix D i := by
  unfold upd
  rw [ix_app_r _ _ (i - b) (by simp; omega) (by simp [srt_len, rg_len h2]; omega), ix_eq _ _ (by simp; omega), ix_eq _ _ (by omega)]
  simp only [List.getElem_drop]
  congr 1; omega
theorem upd_rg {D : List α} {a b : Nat} (h1 : a ≤ b) (h2 : b ≤ D.length) : rg (upd key D a b) a b = srt key (rg D a b) := by
  unfold upd
  have hl : (srt key (rg D a b)).length = b - a := by rw [srt_len, rg_len h2]
  rw [rg_app_l _ _ (by simp [hl]; omega), rg_app_r _ _ (n := a) (by simp; omega) (Nat.le_refl _), Nat.sub_self, rg_zero _ hl.symm]
def chn (key : α → Int) (D : List α) (B a : Nat) : Prop := ∀ i, i + 1 < a → i + 1 < D.length → (∀ t, i + 1 ≠ t * B) → key (ix D i) ≤ key (ix D (i + 1))
theorem no_mult {B a i t : Nat} (ha : a = t * B) (h1 : a ≤ i) (h2 : i + 1 < a + B) : ∀ t', i + 1 ≠ t' * B := by
  intro t' e
  subst ha
  have k1 : t * B < t' * B := by omega
  have k2 : t' * B < (t + 1) * B := by rw [Nat.add_mul]; omega
  have := Nat.lt_of_mul_lt_mul_right k1
  have := Nat.lt_of_mul_lt_mul_right k2
  omega
theorem chn_blk {D : List α} {B n a b t : Nat} (h : chn key D B n) (ha : a = t * B) (hb : b ≤ a + B) (hn : b ≤ D.length) (hbn : b ≤ n) : Asc key (rg D a b) :=
  asc_rg hn fun i h1 h2 => h i (by omega) (by omega) (no_mult ha h1 (by omega))
theorem chn_asc {D : List α} {B : Nat} (h : chn key D B D.length) (hB : D.length ≤ B) : Asc key D := by
  have := chn_blk (a := 0) (b := D.length) (t := 0) h (by omega) (by omega) (Nat.le_refl _) (Nat.le_refl _)
  rwa [rg_zero _ rfl] at this
theorem upd_in {D : List α} {a b i : Nat} (h1 : a ≤ b) (h2 : b ≤ D.length) (hi : a ≤ i) (hj : i + 1 < b) : key (ix (upd key D a b) i) ≤ key (ix (upd key D a b) (i + 1)) :=
  rg_asc (a := a) (b := b) (by rw [upd_len h1 h2]; exact h2) (by rw [upd_rg h1 h2]; exact srt_asc _) hi (by omega) hj
theorem chn_new {D : List α} {B a b t : Nat} (h : chn key D B a) (ha : a = t * B) (h1 : a ≤ b) (h2 : b ≤ D.length) : chn key (upd key D a b) B b := by
  intro i i1 i2 i3
  rcases Nat.lt_trichotomy (i + 1) a with h3 | h3 | h3
  · rw [upd_len h1 h2] at i2
    rw [upd_lo h1 h2 (by omega), upd_lo h1 h2 h3]
    exact h i h3 i2 i3
  · exact absurd (h3.trans ha) (i3 t)
  · exact upd_in h1 h2 (by omega) i1
theorem chn_old {D : List α} {B a b t : Nat} (h : chn key D B D.length) (ha : a = t * B) (h1 : a ≤ b) (h2 : b ≤ D.length) (hb : b = D.length ∨ ∃ t, b = t * B) : chn key (upd key D a b) B D.length := by
  intro i i1 i2 i3
  rw [upd_len h1 h2] at i2
  rcases Nat.lt_or_ge (i + 1) b with h4 | h4
  · exact chn_new (fun i j1 j2 j3 => h i (by omega) j2 j3) ha h1 h2 i h4 (by rw [upd_len h1 h2]; exact i2) i3
  · rcases Nat.eq_or_lt_of_le h4 with h5 | h5
    · rcases hb with hb | ⟨t', hb⟩
      · omega
      · exact absurd (h5.symm.trans hb) (i3 t')
    · rw [upd_hi h1 h2 (by omega) (by omega), upd_hi h1 h2 (by omega) (by omega)]
      exact h i i2 i2 i3
theorem chn_mono {D : List α} {B a b : Nat} (h : chn key D B a) (hb : b ≤ a) : chn key D B b := fun i i1 i2 i3 => h i (by omega) i2 i3
end
end Go.Proofs.Yteejnmgjjefbiaa
namespace Go.Proofs.Yteejnmgjjefbiaa
open Go.RowKit
set_option linter.unusedSimpArgs false
set_option linter.unusedVariables false
set_option linter.unusedSectionVars false
set_option maxRecDepth 100000

structure CmpOk {α : Type} (F : α → LV) (cf : α → α → Int) (key : α → Int) (g : FuncId) (caps : List LV) : Prop where
  call : ∀ (x y : α) (H : Hp), FunH Try.prog g (F x :: F y :: caps) H fun r H' => r = .int .i64 (cf x y) ∧ H' = H
  neg : ∀ x y, cf x y < 0 ↔ key x < key y
  cell : ∀ x, (F x).isCell = true
  cells : ∀ x, cellsL (F x) = [F x]
section
variable {α : Type} [Inhabited α]
theorem mget (F : α → LV) (D : List α) {k : Nat} (h : k < D.length) : (D.map F)[k]? = some (F (ix D k)) := by
  rw [List.getElem?_map, ix_get? _ _ h]; rfl
theorem mset (F : α → LV) (D : List α) (p q : Nat) : ((D.map F).set p (F (ix D q))).set q (F (ix D p)) = (swp D p q).map F := by
  unfold swp; rw [List.map_set, List.map_set]
theorem upd_one (key : α → Int) (D : List α) (a : Nat) : upd key D a (a + 1) = D := by
  unfold upd
  have h : srt key (rg D a (a + 1)) = rg D a (a + 1) := by
    refine srt_of_asc ?_
    unfold rg
    rw [show a + 1 - a = 1 by omega]
    cases D.drop a with
    | nil => exact List.Pairwise.nil
    | cons x l => simp [Asc]
  rw [h, rg_all D (by omega)]
theorem upd_none (key : α → Int) (D : List α) (a : Nat) : upd key D a a = D := by
  unfold upd; simp [rg, srt]
theorem ins_start (key : α → Int) (D : List α) {a i : Nat} (h1 : a ≤ i) (h2 : i < D.length) : mv (D.take a) (srt key (rg D a i)) (D.drop (i + 1)) (ix D i) (srt key (rg D a i)).length = upd key D a i := by
  unfold mv upd
  rw [List.take_length, List.drop_length, drop_ix D i h2]; simp
theorem ins_end {key : α → Int} (D : List α) {a i t : Nat} (h1 : a ≤ i) (h2 : i < D.length) (hl : ∀ s ∈ (srt key (rg D a i)).take t, key s ≤ key (ix D i)) (hr : ∀ s ∈ (srt key (rg D a i)).drop t, key (ix D i) < key s) :
    mv (D.take a) (srt key (rg D a i)) (D.drop (i + 1)) (ix D i) t = upd key D a (i + 1) := by
  unfold mv upd
  rw [srt_put (srt_asc _) hl hr, srt_app_srt, rg_split D h1 (by omega : i ≤ i + 1)]
  congr 2
  unfold rg
  rw [show i + 1 - i = 1 by omega, drop_ix D i h2]; rfl
end
end Go.Proofs.Yteejnmgjjefbiaa
namespace Go.Proofs.Yteejnmgjjefbiaa
open Go.RowKit
set_option linter.unusedSimpArgs false
set_option linter.unusedVariables false
set_option linter.unusedSectionVars false
set_option maxRecDepth 100000

theorem mid_eq (x y : Nat) (hx : x ≤ 2097152) (hy : y ≤ 2097152) : IntKind.i64.wrap ((IntKind.u64.wrap ((x : Int) + (y : Int))).fdiv (2 ^ min 1 64)) = (((x + y) / 2 : Nat) : Int) := by
  have e1 : IntKind.u64.wrap ((x : Int) + (y : Int)) = ((x + y : Nat) : Int) := by rw [IntKind.wrap_u64]; omega
  have e2 : (2 : Int) ^ min 1 64 = 2 := by decide
  rw [e1, e2, Int.fdiv_eq_ediv_of_nonneg _ (by omega)]
  exact w64 _ (by omega) (by omega)
section
variable {α : Type} [Inhabited α]
theorem rg_cons (D : List α) {a b : Nat} (h1 : a < b) (h2 : b ≤ D.length) : rg D a b = ix D a :: rg D (a + 1) b := by
  unfold rg
  rw [drop_ix D a (by omega), show b - a = (b - (a + 1)) + 1 by omega, List.take_succ_cons]
theorem rg_snoc (D : List α) {a b : Nat} (h1 : a ≤ b) (h2 : b < D.length) : rg D a (b + 1) = rg D a b ++ [ix D b] := by
  rw [rg_split D h1 (by omega : b ≤ b + 1)]
  congr 1
  unfold rg
  rw [show b + 1 - b = 1 by omega, drop_ix D b h2]; rfl
theorem rg_get (D : List α) {a b t : Nat} (h2 : b ≤ D.length) (h1 : a ≤ t) (h3 : t < b) : ix (rg D a b) (t - a) = ix D t := by
  rw [rg_ix D h2 (by omega), show a + (t - a) = t by omega]
/-- The first element put where it belongs among those behind it. -/
theorem symA {key : α → Int} (D : List α) {a b i : Nat} (h1 : a + 1 ≤ i) (h2 : i ≤ b) (h3 : b ≤ D.length) (hY : Asc key (rg D (a + 1) b)) (hl : a + 1 < i → key (ix D (i - 1)) < key (ix D a)) (hr : i < b → key (ix D a) ≤ key (ix D i)) :
    mv (D.take a) (rg D (a + 1) b) (D.drop b) (ix D a) (i - (a + 1)) = upd key D a b := by
  unfold mv upd
  have hl2 : (rg D (a + 1) b).length = b - (a + 1) := rg_len h3
  rw [srt_put' hY (fun s hs => ?_) (fun s hs => ?_), ← rg_cons D (by omega) h3]
  · obtain ⟨m, m1, m2, rfl⟩ := mem_take_ix hs
    rw [hl2] at m2
    rw [rg_ix D h3 (by omega)]
    have := rg_asc h3 hY (i := a + 1 + m) (j := i - 1) (by omega) (by omega) (by omega)
    have := hl (by omega)
    omega
  · obtain ⟨m, m1, m2, rfl⟩ := mem_drop_ix hs
    rw [hl2] at m2
    rw [rg_ix D h3 (by omega)]
    have := rg_asc h3 hY (i := i) (j := a + 1 + m) (by omega) (by omega) (by omega)
    have := hr (by omega)
    omega
theorem symA_0 (D : List α) {a b : Nat} (h1 : a < b) (h3 : b ≤ D.length) : mv (D.take a) (rg D (a + 1) b) (D.drop b) (ix D a) 0 = D := by
  unfold mv
  have := rg_all D (a := a) (b := b) (by omega)
  rw [rg_cons D h1 h3] at this
  simpa using this
/-- The last element put where it belongs among those before it. -/
theorem symB {key : α → Int} (D : List α) {a m i : Nat} (h1 : a ≤ i) (h2 : i ≤ m) (h3 : m < D.length) (hX : Asc key (rg D a m)) (hl : a < i → key (ix D (i - 1)) ≤ key (ix D m)) (hr : i < m → key (ix D m) < key (ix D i)) :
    mv (D.take a) (rg D a m) (D.drop (m + 1)) (ix D m) (i - a) = upd key D a (m + 1) := by
  unfold mv upd
  have hl2 : (rg D a m).length = m - a := rg_len (by omega)
  rw [srt_put hX (fun s hs => ?_) (fun s hs => ?_), ← rg_snoc D (by omega) h3]
  · obtain ⟨t, m1, m2, rfl⟩ := mem_take_ix hs
    rw [hl2] at m2
    rw [rg_ix D (by omega) (by omega)]
    have := rg_asc (by omega) hX (i := a + t) (j := i - 1) (by omega) (by omega) (by omega)
    have := hl (by omega)
    omega
  · obtain ⟨t, m1, m2, rfl⟩ := mem_drop_ix hs
    rw [hl2] at m2
    rw [rg_ix D (by omega) (by omega)]
    have := rg_asc (by omega) hX (i := i) (j := a + t) (by omega) (by omega) (by omega)
    have := hr (by omega)
    omega
theorem symB_n (D : List α) {a m : Nat} (h1 : a ≤ m) (h3 : m < D.length) : mv (D.take a) (rg D a m) (D.drop (m + 1)) (ix D m) (m - a) = D := by
  unfold mv
  have := rg_all D (a := a) (b := m + 1) (by omega)
  rw [rg_snoc D h1 h3] at this
  have hl2 : (rg D a m).length = m - a := rg_len (by omega)
  rw [← hl2, List.take_length, List.drop_length]
  simpa using this
/-- The three steps of a merge between. -/
theorem symC_law {key : α → Int} (D : List α) {a s m e mid b : Nat} (h1 : a ≤ s) (h2 : s ≤ m) (h3 : m ≤ e) (h4 : e ≤ b) (h5 : b ≤ D.length) (hmid : s + (e - m) = mid) (hX : Asc key (rg D a m)) (hY : Asc key (rg D m b))
    (hl : s < m → m < e → key (ix D (e - 1)) < key (ix D s)) (hr : a < s → e < b → key (ix D (s - 1)) ≤ key (ix D e)) :
    upd key (upd key (D.take s ++ rg D m e ++ rg D s m ++ D.drop e) a mid) mid b = upd key D a b := by
  have lX : (rg D a m).length = m - a := rg_len (by omega)
  have lY : (rg D m b).length = b - m := rg_len h5
  have eX1 : (rg D a m).take (s - a) = rg D a s := by unfold rg; rw [List.take_take, show min (s - a) (m - a) = s - a by omega]
  have eX2 : (rg D a m).drop (s - a) = rg D s m := by unfold rg; rw [List.drop_take, List.drop_drop, show a + (s - a) = s by omega, show m - a - (s - a) = m - s by omega]
  have eY1 : (rg D m b).take (e - m) = rg D m e := by unfold rg; rw [List.take_take, show min (e - m) (b - m) = e - m by omega]
  have eY2 : (rg D m b).drop (e - m) = rg D e b := by unfold rg; rw [List.drop_take, List.drop_drop, show m + (e - m) = e by omega, show b - m - (e - m) = b - e by omega]
  have key1 := sym_join (s := s - a) (e := e - m) (by omega) (by omega) hX hY (fun k1 k2 => by
      rw [lX] at k1
      rw [rg_ix D h5 (by omega), rg_ix D (by omega) (by omega), show m + (e - m - 1) = e - 1 by omega, show a + (s - a) = s by omega]
      exact hl (by omega) (by omega)) (fun k1 k2 => by
      rw [lY] at k2
      rw [rg_ix D (by omega) (by omega), rg_ix D h5 (by omega), show a + (s - a - 1) = s - 1 by omega, show m + (e - m) = e by omega]
      exact hr (by omega) (by omega))
  rw [eX1, eX2, eY1, eY2, ← rg_split D (by omega) (by omega)] at key1
  have l1 : (rg D a s).length = s - a := rg_len (by omega)
  have l2 : (rg D m e).length = e - m := rg_len (by omega)
  have l3 : (rg D s m).length = m - s := rg_len (by omega)
  have l4 : (rg D e b).length = b - e := rg_len (by omega)
  have eD : D.take s ++ rg D m e ++ rg D s m ++ D.drop e = D.take a ++ (rg D a s ++ rg D m e) ++ ((rg D s m ++ rg D e b) ++ D.drop b) := by
    have k1 : D.take s = D.take a ++ rg D a s := by
      rw [← rg_take, ← rg_take, ← rg_split D (by omega) (by omega)]
    have k2 : D.drop e = rg D e b ++ D.drop b := by
      unfold rg
      have : D.drop b = (D.drop e).drop (b - e) := by rw [List.drop_drop, show e + (b - e) = b by omega]
      rw [this, List.take_append_drop]
    rw [k1, k2]; simp
  have g1 : ∀ (P Q R : List α) (p q : Nat), p = P.length → q = P.length + Q.length → upd key (P ++ Q ++ R) p q = P ++ srt key Q ++ R := by
    intro P Q R p q hp hq
    subst hp; subst hq
    unfold upd
    have : rg (P ++ Q ++ R) P.length (P.length + Q.length) = Q := by
      unfold rg; simp
    have t1 : (P ++ Q ++ R).take P.length = P := by rw [List.append_assoc, List.take_left]
    have t2 : (P ++ Q ++ R).drop (P.length + Q.length) = R := by rw [← List.length_append, List.drop_left]
    rw [this, t1, t2]
  have la : (D.take a).length = a := by simp; omega
  rw [eD, g1 _ _ _ _ _ la.symm (by simp [la, l1, l2]; omega)]
  rw [show D.take a ++ srt key (rg D a s ++ rg D m e) ++ ((rg D s m ++ rg D e b) ++ D.drop b) = (D.take a ++ srt key (rg D a s ++ rg D m e)) ++ (rg D s m ++ rg D e b) ++ D.drop b by simp]
  rw [g1 _ _ _ _ _ (by simp [la, l1, l2, srt_len]; omega) (by simp [la, l1, l2, l3, l4, srt_len]; omega)]
  unfold upd
  rw [← key1]; simp
theorem rot_same (D : List α) {s m e : Nat} (h1 : s ≤ m) (h2 : m ≤ e) (h : ¬ (s < m ∧ m < e)) : D.take s ++ rg D m e ++ rg D s m ++ D.drop e = D := by
  by_cases hs : s < m
  · have he : m = e := by omega
    subst he
    have : rg D m m = [] := by simp [rg]
    rw [this, List.append_nil, rg_all D h1]
  · have he : s = m := by omega
    subst he
    have : rg D s s = [] := by simp [rg]
    rw [this, List.append_nil, rg_all D h2]
theorem upd_asc_same {key : α → Int} (D : List α) {a b : Nat} (h1 : a ≤ b) (h : Asc key (rg D a b)) : upd key D a b = D := by
  unfold upd; rw [srt_of_asc h, rg_all D h1]
end
end Go.Proofs.Yteejnmgjjefbiaa
