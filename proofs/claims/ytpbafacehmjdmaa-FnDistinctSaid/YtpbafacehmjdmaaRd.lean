/- Zeros and least hashes of parts and of all, plainly. -/
import Derived.Test.YtpbafacehmjdmaaRc
import Derived.Test.YtpbafacehmjdmaaZu
namespace Go.Proofs.Ytpbafacehmjdmaa
open Go.RowKit
set_option linter.unusedSimpArgs false
set_option linter.unusedVariables false
set_option maxRecDepth 100000

/-! Zeros: each key has a cell A k and a value V k. -/
def zcF (A : Int → Nat) (V : Int → Int) (ks : List Int) (p : Nat) : Int := ks.foldl (fun a k => if A k = p then max a (V k) else a) 0
def zcL (A : Int → Nat) (V : Int → Int) (m : Nat) (ks : List Int) : List Int := (List.range m).map (zcF A V ks)
section
variable {A : Int → Nat} {V : Int → Int} {m : Nat}
theorem zcL_len (ks : List Int) : (zcL A V m ks).length = m := by simp [zcL]
theorem zcL_ix (ks : List Int) {p : Nat} (h : p < m) : ix (zcL A V m ks) p = zcF A V ks p := by
  rw [ix_eq _ _ (by rw [zcL_len]; exact h)]; simp [zcL]
theorem zcF_snoc (ks : List Int) (k : Int) (p : Nat) : zcF A V (ks ++ [k]) p = if A k = p then max (zcF A V ks p) (V k) else zcF A V ks p := by
  unfold zcF; rw [List.foldl_append]; rfl
theorem zcF_from (hV : ∀ k, 1 ≤ V k ∧ V k ≤ 33) (p : Nat) : ∀ (ks : List Int) (x : Int), 0 ≤ x → ks.foldl (fun a k => if A k = p then max a (V k) else a) x = max x (zcF A V ks p)
  | [], x, hx => by show x = max x 0; omega
  | k :: ks, x, hx => by
    have hv := hV k
    show ks.foldl _ (if A k = p then max x (V k) else x) = max x (ks.foldl _ (if A k = p then max 0 (V k) else 0))
    by_cases e : A k = p
    · rw [if_pos e, if_pos e, zcF_from hV p ks _ (by omega), zcF_from hV p ks _ (by omega)]; omega
    · rw [if_neg e, if_neg e, zcF_from hV p ks x hx]; rfl
theorem zcF_in (hV : ∀ k, 1 ≤ V k ∧ V k ≤ 33) (p : Nat) (ks : List Int) : 0 ≤ zcF A V ks p ∧ zcF A V ks p ≤ 33 := by
  have key : ∀ (ks : List Int) (x : Int), 0 ≤ x ∧ x ≤ 33 → 0 ≤ ks.foldl (fun a k => if A k = p then max a (V k) else a) x ∧ ks.foldl (fun a k => if A k = p then max a (V k) else a) x ≤ 33 := by
    intro ks
    induction ks with
    | nil => intro x hx; exact hx
    | cons k ks ih =>
      intro x hx
      have hv := hV k
      refine ih _ ?_
      show 0 ≤ (if A k = p then max x (V k) else x) ∧ (if A k = p then max x (V k) else x) ≤ 33
      split <;> omega
  exact key ks 0 (by omega)
theorem zcF_app (hV : ∀ k, 1 ≤ V k ∧ V k ≤ 33) (a b : List Int) (p : Nat) : zcF A V (a ++ b) p = max (zcF A V a p) (zcF A V b p) := by
  have h0 := (zcF_in (A := A) hV p a).1
  show (a ++ b).foldl _ 0 = _
  rw [List.foldl_append]
  exact zcF_from hV p b _ h0
theorem zcF_ge (hV : ∀ k, 1 ≤ V k ∧ V k ≤ 33) {ks : List Int} {k : Int} (h : k ∈ ks) : V k ≤ zcF A V ks (A k) := by
  obtain ⟨a, b, rfl⟩ := List.append_of_mem h
  rw [zcF_app hV, show k :: b = [k] ++ b from rfl, zcF_app hV]
  have : zcF A V [k] (A k) = max 0 (V k) := by unfold zcF; simp
  omega
theorem zcL_nil : zcL A V m [] = List.replicate m 0 := by
  apply List.ext_getElem?
  intro i
  rcases Nat.lt_or_ge i m with h | h
  · rw [List.getElem?_replicate, if_pos h]; simp [zcL, h, zcF]
  · rw [List.getElem?_eq_none (by rw [zcL_len]; exact h), List.getElem?_eq_none (by simpa using h)]
theorem zcL_set (ks : List Int) (k : Int) : (zcL A V m ks).set (A k) (max (ix (zcL A V m ks) (A k)) (V k)) = zcL A V m (ks ++ [k]) := by
  apply List.ext_getElem?
  intro i
  rcases Nat.lt_or_ge i m with h | h
  · have e2 : (zcL A V m (ks ++ [k]))[i]? = some (zcF A V (ks ++ [k]) i) := by simp [zcL, h]
    have e1 : (zcL A V m ks)[i]? = some (zcF A V ks i) := by simp [zcL, h]
    rw [e2, zcF_snoc]
    by_cases e : A k = i
    · rw [e, List.getElem?_set_self (by rw [zcL_len]; exact h), if_pos rfl, zcL_ix _ h]
    · rw [List.getElem?_set_ne e, if_neg e, e1]
  · rw [List.getElem?_eq_none (by rw [List.length_set, zcL_len]; exact h), List.getElem?_eq_none (by rw [zcL_len]; exact h)]
theorem zcL_join (hV : ∀ k, 1 ≤ V k ∧ V k ≤ 33) (a b : List Int) : (List.range m).map (fun p => max (ix (zcL A V m a) p) (ix (zcL A V m b) p)) = zcL A V m (a ++ b) := by
  unfold zcL
  refine List.map_congr_left fun p hp => ?_
  have h := List.mem_range.1 hp
  have e1 := zcL_ix (A := A) (V := V) (m := m) a h
  have e2 := zcL_ix (A := A) (V := V) (m := m) b h
  unfold zcL at e1 e2
  rw [e1, e2, zcF_app hV]
end
theorem zcL_ok {A : Int → Nat} {V : Int → Int} (hV : ∀ k, 1 ≤ V k ∧ V k ≤ 33) {s : Int} (h : keyB s = true) (ks : List Int) : zerB s (zcL A V 256 ks) = true := by
  unfold zerB
  rw [h, zcL_len]
  have h1 : pow16B ((256 : Nat) : Int) = true := by decide
  rw [h1, Bool.and_self, Bool.true_and]
  refine List.all_eq_true.2 fun x hx => ?_
  unfold zcL at hx
  obtain ⟨p, _, rfl⟩ := List.mem_map.1 hx
  have := zcF_in (A := A) hV p ks
  simp only [inB, Bool.and_eq_true, decide_eq_true_eq]; omega
/-- A key's cell among 256, and its value. -/
def zA (s : Int) (k : Int) : Nat := zaI k s 256
def zV (s : Int) (k : Int) : Int := zvI k s
theorem zV_in (s : Int) : ∀ k, 1 ≤ zV s k ∧ zV s k ≤ 33 := fun k => zvI_in k s
theorem zA_lt (s k : Int) : zA s k < 256 := (zaI_lt k s (m := 256) (by decide) (by decide)).1
theorem zcL_put (s : Int) (ks : List Int) (k : Int) : pzL k s (zcL (zA s) (zV s) 256 ks) = zcL (zA s) (zV s) 256 (ks ++ [k]) := by
  rw [← zcL_set]
  unfold pzL
  rw [zcL_len]
  rfl
/-- How many cells are in use. -/
def zuN (cs : List Int) : Nat := cs.countP fun x => decide (0 < x)
theorem count_or {α : Type} (P Q : α → Bool) : ∀ l : List α, (l.countP fun x => P x || Q x) ≤ l.countP P + l.countP Q
  | [] => Nat.le_refl _
  | x :: l => by
    have := count_or P Q l
    simp only [List.countP_cons]
    cases P x <;> cases Q x <;> simp <;> omega
theorem count_one (q : Nat) : ∀ m, ((List.range m).countP fun p => p == q) ≤ 1 := fun m => by
  have h : ∀ m, ((List.range m).countP fun p => p == q) = if q < m then 1 else 0 := by
    intro m
    induction m with
    | zero => rfl
    | succ m ih =>
      rw [List.range_succ, List.countP_append, ih, List.countP_singleton]
      by_cases e : m = q
      · subst e; simp
      · have : (m == q) = false := by simpa using e
        rw [this]
        by_cases h : q < m
        · have h2 : q < m + 1 := by omega
          simp [h, h2]
        · have h2 : ¬ q < m + 1 := by omega
          simp [h, h2]
  rw [h]; split <;> omega
theorem zuN_map (A : Int → Nat) (V : Int → Int) (m : Nat) (ks : List Int) : zuN (zcL A V m ks) = (List.range m).countP fun p => decide (0 < zcF A V ks p) := by
  unfold zuN zcL
  rw [List.countP_map]; rfl
theorem zuN_snoc {A : Int → Nat} {V : Int → Int} (hV : ∀ k, 1 ≤ V k ∧ V k ≤ 33) (m : Nat) (ks : List Int) (k : Int) : zuN (zcL A V m (ks ++ [k])) ≤ zuN (zcL A V m ks) + if k ∈ ks then 0 else 1 := by
  rw [zuN_map, zuN_map]
  have hv := hV k
  split
  · rename_i hk
    have hge := zcF_ge (A := A) hV hk
    have : (fun p => decide (0 < zcF A V (ks ++ [k]) p)) = fun p => decide (0 < zcF A V ks p) := by
      funext p
      rw [zcF_snoc]
      by_cases e : A k = p
      · subst e
        rw [if_pos rfl, Int.max_eq_left hge]
      · rw [if_neg e]
    rw [this]; exact Nat.le_refl _
  · have h1 : (fun p => decide (0 < zcF A V (ks ++ [k]) p)) = fun p => decide (0 < zcF A V ks p) || p == A k := by
      funext p
      have h0 := (zcF_in (A := A) hV p ks).1
      rw [zcF_snoc]
      by_cases e : A k = p
      · subst e
        rw [if_pos rfl]
        simp; omega
      · rw [if_neg e]
        have : (p == A k) = false := by simp; omega
        rw [this, Bool.or_false]
    rw [h1]
    have h2 := count_or (fun p => decide (0 < zcF A V ks p)) (fun p => p == A k) (List.range m)
    have h3 := count_one (A k) m
    omega
/-- How many different numbers a list has. -/
def dsN (xs : List Int) : Nat := (setU xs).length
theorem dsN_snoc (xs : List Int) (x : Int) : dsN (xs ++ [x]) = dsN xs + if x ∈ xs then 0 else 1 := by
  unfold dsN
  rw [setU_snoc, insU_len_in (setU_inc xs)]
  simp only [setU_mem]
  split <;> rfl
theorem dsN_le (xs : List Int) : dsN xs ≤ xs.length := setU_len xs
theorem snoc_ind {P : List Int → Prop} (h0 : P []) (h1 : ∀ xs x, P xs → P (xs ++ [x])) : ∀ xs, P xs := by
  intro xs
  have : ∀ n, ∀ xs : List Int, xs.length = n → P xs := by
    intro n
    induction n with
    | zero => intro xs h; rw [List.eq_nil_of_length_eq_zero h]; exact h0
    | succ n ih =>
      intro xs h
      have hne : xs ≠ [] := by rintro rfl; cases h
      rw [← List.dropLast_concat_getLast hne]
      exact h1 _ _ (ih _ (by rw [List.length_dropLast]; omega))
  exact this _ xs rfl
theorem zuN_le {A : Int → Nat} {V : Int → Int} (hV : ∀ k, 1 ≤ V k ∧ V k ≤ 33) (m : Nat) : ∀ ks, zuN (zcL A V m ks) ≤ dsN ks := by
  refine snoc_ind ?_ fun ks k ih => ?_
  · rw [zuN_map]
    have : (fun p => decide (0 < zcF A V [] p)) = fun _ => false := by funext p; simp [zcF]
    rw [this]; simp
  · have h1 := zuN_snoc (A := A) hV m ks k
    rw [dsN_snoc]
    split at h1 <;> rename_i h <;> simp only [h, if_true, if_false] <;> omega
theorem zuN_pos {A : Int → Nat} {V : Int → Int} (hV : ∀ k, 1 ≤ V k ∧ V k ≤ 33) {m : Nat} {ks : List Int} (hk : 0 < ks.length) (hA : A (ix ks 0) < m) : 1 ≤ zuN (zcL A V m ks) := by
  have hge := zcF_ge (A := A) hV (ix_mem ks 0 hk)
  have hv := hV (ix ks 0)
  rw [zuN_map]
  refine List.countP_pos_iff.2 ⟨A (ix ks 0), List.mem_range.2 hA, ?_⟩
  simp only [decide_eq_true_eq]; omega
/-! Least hashes. -/
theorem fold_take (n : Nat) : ∀ (xs L : List Int), Inc L → (xs.foldl (fun L x => insU x L) (L.take n)).take n = (xs.foldl (fun L x => insU x L) L).take n
  | [], L, _ => by show (L.take n).take n = L.take n; rw [List.take_take, Nat.min_self]
  | x :: t, L, h => by
    show (t.foldl _ (insU x (L.take n))).take n = (t.foldl _ (insU x L)).take n
    rw [← fold_take n t (insU x (L.take n)) (insU_inc x (h.take n)), insU_take x L n h, fold_take n t (insU x L) (insU_inc x h)]
theorem setU_self {L : List Int} (h : Inc L) : setU L = L := (setU_unique h fun y => Iff.rfl).symm
theorem lst_half (a B : List Int) (r : Nat) : (setU ((setU a).take r ++ B)).take r = (setU (a ++ B)).take r := by
  have e1 : setU ((setU a).take r ++ B) = B.foldl (fun L x => insU x L) ((setU a).take r) := by
    have : setU ((setU a).take r ++ B) = B.foldl (fun L x => insU x L) (setU ((setU a).take r)) := by unfold setU; rw [List.foldl_append]
    rw [this, setU_self ((setU_inc a).take r)]
  have e2 : setU (a ++ B) = B.foldl (fun L x => insU x L) (setU a) := by unfold setU; rw [List.foldl_append]
  rw [e1, e2, fold_take r B _ (setU_inc a)]
theorem setU_swap (a b : List Int) : setU (a ++ b) = setU (b ++ a) := setU_unique (setU_inc _) fun y => by rw [setU_mem, List.mem_append, List.mem_append, Or.comm]
/-- The least of all are the least of the parts' least. -/
theorem lstU_join (a b : List Int) (room : Int) : lstU (lstU a room ++ lstU b room) room = lstU (a ++ b) room := by
  unfold lstU
  rw [lst_half, setU_swap, lst_half, setU_swap]
end Go.Proofs.Ytpbafacehmjdmaa
