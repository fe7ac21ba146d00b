/- Levels brought in order, plainly, and where their lists lie. -/
import Derived.Test.YtonlgkecphijoaaHl
import Derived.Test.YtonlgkecphijoaaSw
import Derived.Test.YtonlgkecphijoaaBw
namespace Go.Proofs.Ytonlgkecphijoaa
open Go.RowKit
set_option linter.unusedSimpArgs false
set_option linter.unusedVariables false
set_option maxRecDepth 100000

/-! Plainly. -/
def pik (ws : List Nat) (s : Nat) : Nat → List Nat
  | 0 => []
  | t + 1 => pik ws s t ++ [ix ws (s + 2 * t)]
theorem pik_len (ws : List Nat) (s : Nat) : ∀ t, (pik ws s t).length = t
  | 0 => rfl
  | t + 1 => by show (pik ws s t ++ [_]).length = _; rw [List.length_append, pik_len ws s t]; rfl
def grw (h : Nat) (ls : List (List Nat)) : List (List Nat) := if h + 1 = ls.length then ls ++ [[]] else ls
def sdN (s : Int) : Int := (1664525 * s + 1013904223).tmod 4294967296
def stp (q h : Nat) (ls : List (List Nat)) (s : Int) : List (List Nat) :=
  ((grw h ls).set h ((ix ls h).drop (2 * q))).set (h + 1) (ix (grw h ls) (h + 1) ++ pik (srt kW ((ix ls h).take (2 * q))) (s.tmod 2).toNat q)
def stl (q : Nat) : Nat → Nat → List (List Nat) → Int → List (List Nat) × Int
  | 0, _, ls, s => (ls, s)
  | n + 1, h, ls, s => if h < ls.length then (if 2 * q ≤ (ix ls h).length then stl q n h (stp q h ls s) (sdN s) else stl q n (h + 1) ls s) else (ls, s)
theorem stl_succ (q n h : Nat) (ls : List (List Nat)) (s : Int) : stl q (n + 1) h ls s = if h < ls.length then (if 2 * q ≤ (ix ls h).length then stl q n h (stp q h ls s) (sdN s) else stl q n (h + 1) ls s) else (ls, s) := rfl
theorem stl_end {q n h : Nat} {ls : List (List Nat)} {s : Int} (hh : ¬ h < ls.length) : stl q n h ls s = (ls, s) := by
  cases n with
  | zero => rfl
  | succ n => rw [stl_succ, if_neg hh]
def totW (ls : List (List Nat)) : Nat := (ls.map List.length).sum
theorem totW_app (a b : List (List Nat)) : totW (a ++ b) = totW a + totW b := by unfold totW; rw [List.map_append, List.sum_append]
theorem totW_set {ls : List (List Nat)} {k : Nat} (h : k < ls.length) (x : List Nat) : totW (ls.set k x) + (ix ls k).length = totW ls + x.length := by
  induction ls generalizing k with
  | nil => exact absurd h (Nat.not_lt_zero _)
  | cons a ls ih =>
    cases k with
    | zero => show x.length + totW ls + a.length = a.length + totW ls + x.length; omega
    | succ k => have := ih (k := k) (by simpa using h); show a.length + totW (ls.set k x) + (ix ls k).length = a.length + totW ls + x.length; omega
theorem totW_at {ls : List (List Nat)} {k : Nat} (h : k < ls.length) : (ix ls k).length ≤ totW ls := by
  have := totW_set h []; simp only [List.length_nil] at this; omega
theorem grw_len (h : Nat) (ls : List (List Nat)) : (grw h ls).length = if h + 1 = ls.length then ls.length + 1 else ls.length := by
  unfold grw; split
  · rw [List.length_append]; rfl
  · rfl
theorem grw_tot (h : Nat) (ls : List (List Nat)) : totW (grw h ls) = totW ls := by
  unfold grw; split
  · rw [totW_app]; rfl
  · rfl
theorem ix_appL {α : Type} [Inhabited α] {a b : List α} {k : Nat} (h : k < a.length) : ix (a ++ b) k = ix a k := by
  rw [ix_eq _ _ (by rw [List.length_append]; omega), ix_eq _ _ h, List.getElem_append_left h]
theorem ix_appN {α : Type} [Inhabited α] (a : List α) (x : α) : ix (a ++ [x]) a.length = x := by
  rw [ix_eq _ _ (by simp)]; simp
theorem ix_setA {α : Type} [Inhabited α] {xs : List α} {k j : Nat} {x : α} (hj : j < xs.length) : ix (xs.set k x) j = if k = j then x else ix xs j := by
  rw [ix_eq _ _ (by simpa using hj), List.getElem_set, ix_eq _ _ hj]
theorem ix_mapA {α β : Type} [Inhabited α] [Inhabited β] (f : α → β) {xs : List α} {k : Nat} (h : k < xs.length) : ix (xs.map f) k = f (ix xs k) := by
  rw [ix_eq _ _ (by rw [List.length_map]; exact h), ix_eq _ _ h, List.getElem_map]
theorem grw_ix {h : Nat} {ls : List (List Nat)} {k : Nat} (hk : k < ls.length) : ix (grw h ls) k = ix ls k := by
  unfold grw; split
  · exact ix_appL hk
  · rfl
theorem stp_len (q h : Nat) (ls : List (List Nat)) (s : Int) : (stp q h ls s).length = if h + 1 = ls.length then ls.length + 1 else ls.length := by
  unfold stp; rw [List.length_set, List.length_set, grw_len]
theorem stp_tot {q h : Nat} {ls : List (List Nat)} (s : Int) (hh : h < ls.length) (hq : 2 * q ≤ (ix ls h).length) : totW (stp q h ls s) + q = totW ls := by
  have e := grw_len h ls
  have hg : h + 1 < (grw h ls).length := by rw [e]; split <;> omega
  have e1 := totW_set (ls := grw h ls) (k := h) (by omega) ((ix ls h).drop (2 * q))
  have e2 := totW_set (ls := (grw h ls).set h ((ix ls h).drop (2 * q))) (k := h + 1) (by rw [List.length_set]; exact hg) (ix (grw h ls) (h + 1) ++ pik (srt kW ((ix ls h).take (2 * q))) (s.tmod 2).toNat q)
  rw [ix_setA hg, if_neg (by omega), List.length_append, pik_len] at e2
  rw [grw_ix hh, grw_tot, List.length_drop] at e1
  unfold stp
  omega
theorem stl_len (q : Nat) : ∀ (n h : Nat) (ls : List (List Nat)) (s : Int), ls.length ≤ (stl q n h ls s).1.length
  | 0, _, _, _ => Nat.le_refl _
  | n + 1, h, ls, s => by
    unfold stl
    split
    · split
      · have := stl_len q n h (stp q h ls s) (sdN s)
        rw [stp_len] at this
        split at this <;> omega
      · exact stl_len q n (h + 1) ls s
    · exact Nat.le_refl _
theorem sdN_in {s : Int} (h : 0 ≤ s ∧ s ≤ 4294967295) : 0 ≤ sdN s ∧ sdN s ≤ 4294967295 := by
  unfold sdN
  have h1 := Int.tmod_nonneg (a := 1664525 * s + 1013904223) 4294967296 (by omega)
  have h2 := Int.tmod_lt_of_pos (1664525 * s + 1013904223) (b := 4294967296) (by omega)
  omega

theorem RdL_pre {H : Hp} {id ver el m : Nat} {ro : Bool} {cs : List LV} (h : H[id]? = some ⟨ver, ro, el, 1, cs⟩) (hm : m ≤ cs.length) : RdL H (.sl id ver 0 m none) (cs.take m) := by
  refine ⟨by rw [List.length_take]; exact congrArg some (by omega), ?_, by unfold szO; rw [h], fun k hk => by cases hk⟩
  simp only [cellsOf, Nat.mul_one, hgets, h]
  simp [hm]
theorem RdL_suf {H : Hp} {id ver el m : Nat} {ro : Bool} {cs : List LV} (h : H[id]? = some ⟨ver, ro, el, 1, cs⟩) (hm : m ≤ cs.length) : RdL H (.sl id ver m (cs.length - m) none) (cs.drop m) := by
  refine ⟨by rw [List.length_drop]; rfl, ?_, by unfold szO; rw [h], fun k hk => by cases hk⟩
  simp only [cellsOf, Nat.mul_one, hgets, h]
  have e : m + (cs.length - m) ≤ cs.length := by omega
  simp only [e, and_self, ite_true, reduceIte]
  rw [List.take_of_length_le (by rw [List.length_drop]; exact Nat.le_refl _)]
/-! Where the lists lie. -/
def cR (p : Nat × Nat × List Nat) : LV := .sl p.1 p.2.1 0 p.2.2.length none
def oR (p : Nat × Nat × List Nat) : AO := ⟨p.2.1, false, 25, 1, p.2.2.map Fw⟩
def wR (P : List (Nat × Nat × List Nat)) : List (List Nat) := P.map fun p => p.2.2
theorem wR_len (P : List (Nat × Nat × List Nat)) : (wR P).length = P.length := List.length_map ..
theorem wR_ix {P : List (Nat × Nat × List Nat)} {k : Nat} (h : k < P.length) : ix (wR P) k = (ix P k).2.2 := ix_mapA _ h
theorem cR_cells (P : List (Nat × Nat × List Nat)) : (P.map cR).all LV.isCell = true := by
  rw [List.all_eq_true]; intro x hx; obtain ⟨p, _, rfl⟩ := List.mem_map.1 hx; rfl
structure LS (H X : Hp) (A v : Nat) (P : List (Nat × Nat × List Nat)) : Prop where
  pre : ∃ K, X = H ++ K
  out : X[A]? = some ⟨v, false, 41, 1, P.map cR⟩
  lo : H.length ≤ A
  row : ∀ k, k < P.length → X[(ix P k).1]? = some (oR (ix P k)) ∧ H.length ≤ (ix P k).1 ∧ (ix P k).1 ≠ A
  nd : ∀ i k, i < P.length → k < P.length → i ≠ k → (ix P i).1 ≠ (ix P k).1
section
variable {H X Y : Hp} {A v k : Nat} {P : List (Nat × Nat × List Nat)}
theorem lt_ofX {i : Nat} {o : AO} (h : X[i]? = some o) : i < X.length := by
  rcases Nat.lt_or_ge i X.length with h' | h'
  · exact h'
  · rw [List.getElem?_eq_none h'] at h; cases h
theorem LS.ltA (h : LS H X A v P) : A < X.length := lt_ofX h.out
theorem LS.ltk (h : LS H X A v P) (hk : k < P.length) : (ix P k).1 < X.length := lt_ofX (h.row k hk).1
theorem LS.lenX (h : LS H X A v P) : H.length ≤ X.length := by obtain ⟨K, e⟩ := h.pre; rw [e, List.length_append]; omega
theorem LS.app (h : LS H X A v P) (K : Hp) : LS H (X ++ K) A v P := by
  obtain ⟨⟨K0, e0⟩, h2, h3, h4, h5⟩ := h
  have hl : ∀ {i : Nat} {o : AO}, X[i]? = some o → (X ++ K)[i]? = some o := fun hi => by rw [List.getElem?_append_left (lt_ofX hi)]; exact hi
  exact ⟨⟨K0 ++ K, by rw [e0, List.append_assoc]⟩, hl h2, h3, fun k hk => ⟨hl (h4 k hk).1, (h4 k hk).2⟩, h5⟩
theorem pre_set (h : ∃ K, X = H ++ K) {b : Nat} (hb : H.length ≤ b) (o : AO) : ∃ K, X.set b o = H ++ K := by
  obtain ⟨K, e⟩ := h
  exact ⟨K.set (b - H.length) o, by rw [e, List.set_append_right _ _ hb]⟩
theorem LS.setN (h : LS H X A v P) {b : Nat} (o : AO) (hb : H.length ≤ b) (hA : A ≠ b) (hn : ∀ k, k < P.length → (ix P k).1 ≠ b) : LS H (X.set b o) A v P :=
  ⟨pre_set h.pre hb o, by rw [List.getElem?_set_ne (Ne.symm hA)]; exact h.out, h.lo, fun k hk => ⟨by rw [List.getElem?_set_ne (Ne.symm (hn k hk))]; exact (h.row k hk).1, (h.row k hk).2⟩, h.nd⟩
theorem LS.grow (h : LS H X A v P) : LS H (X.set A ⟨v + 1, false, 41, 1, P.map cR ++ [.sl X.length 0 0 0 none]⟩ ++ [⟨0, false, 25, 1, []⟩]) A (v + 1) (P ++ [(X.length, 0, [])]) := by
  have hA := h.ltA
  have hl : (X.set A ⟨v + 1, false, 41, 1, P.map cR ++ [.sl X.length 0 0 0 none]⟩).length = X.length := List.length_set
  refine ⟨?_, ?_, h.lo, fun k hk => ?_, fun i k hi hk hik => ?_⟩
  · obtain ⟨K, e⟩ := pre_set h.pre h.lo ⟨v + 1, false, 41, 1, P.map cR ++ [.sl X.length 0 0 0 none]⟩
    exact ⟨K ++ [⟨0, false, 25, 1, []⟩], by rw [e, List.append_assoc]⟩
  · rw [List.getElem?_append_left (by rw [hl]; exact hA), List.getElem?_set_self hA, List.map_append]; rfl
  · rw [List.length_append] at hk
    rcases Nat.lt_or_ge k P.length with h1 | h1
    · rw [ix_appL h1]
      obtain ⟨r1, r2, r3⟩ := h.row k h1
      exact ⟨by rw [List.getElem?_append_left (by rw [hl]; exact lt_ofX r1), List.getElem?_set_ne (Ne.symm r3)]; exact r1, r2, r3⟩
    · obtain rfl : k = P.length := by simp only [List.length_cons, List.length_nil] at hk; omega
      rw [ix_appN]
      refine ⟨?_, h.lenX, fun e => by simp only at e; omega⟩
      show (_ ++ _)[X.length]? = _
      rw [List.getElem?_append_right (by rw [hl]; exact Nat.le_refl _), hl, Nat.sub_self]; rfl
  · rw [List.length_append] at hi hk
    simp only [List.length_cons, List.length_nil] at hi hk
    rcases Nat.lt_or_ge i P.length with h1 | h1
    · rcases Nat.lt_or_ge k P.length with h2 | h2
      · rw [ix_appL h1, ix_appL h2]; exact h.nd i k h1 h2 hik
      · obtain rfl : k = P.length := by omega
        rw [ix_appL h1, ix_appN]; have := h.ltk h1; simp only; omega
    · obtain rfl : i = P.length := by omega
      rw [ix_appN, ix_appL (by omega)]; have := h.ltk (k := k) (by omega); simp only; omega
theorem LS.put (h : LS H X A v P) (hk : k < P.length) (q : Nat × Nat × List Nat) (hpre : ∃ K, Y = H ++ K) (hY : Y[q.1]? = some (oR q)) (hs : ∀ j, j ≠ q.1 → j < X.length → Y[j]? = X[j]?) (hl : X.length ≤ Y.length) (q1 : H.length ≤ q.1) (qA : q.1 ≠ A) (q2 : ∀ i, i < P.length → i ≠ k → (ix P i).1 ≠ q.1) :
    LS H (Y.set A ⟨v, false, 41, 1, (P.map cR).set k (cR q)⟩) A v (P.set k q) := by
  refine ⟨pre_set hpre h.lo _, ?_, h.lo, fun j hj => ?_, fun i j hi hj hij => ?_⟩
  · rw [List.getElem?_set_self (Nat.lt_of_lt_of_le h.ltA hl), List.map_set]
  · rw [List.length_set] at hj
    rw [ix_setA hj]
    split
    · exact ⟨by rw [List.getElem?_set_ne (Ne.symm qA)]; exact hY, q1, qA⟩
    · rename_i hne
      obtain ⟨r1, r2, r3⟩ := h.row j hj
      exact ⟨by rw [List.getElem?_set_ne (Ne.symm r3), hs _ (q2 j hj (Ne.symm hne)) (lt_ofX r1)]; exact r1, r2, r3⟩
  · rw [List.length_set] at hi hj
    rw [ix_setA hi, ix_setA hj]
    split
    · split
      · omega
      · rename_i e1 e2; exact Ne.symm (q2 j hj (Ne.symm e2))
    · split
      · rename_i e1 e2; exact q2 i hi (Ne.symm e1)
      · exact h.nd i j hi hj hij
theorem LS.putNew (h : LS H X A v P) (hk : k < P.length) (ws : List Nat) :
    LS H ((X ++ [(⟨0, false, 25, 1, ws.map Fw⟩ : AO)]).set A ⟨v, false, 41, 1, (P.map cR).set k (.sl X.length 0 0 ws.length none)⟩) A v (P.set k (X.length, 0, ws)) := by
  refine h.put (Y := X ++ [⟨0, false, 25, 1, ws.map Fw⟩]) hk (X.length, 0, ws) ?_ ?_ (fun j _ hj => by rw [List.getElem?_append_left hj]) (by rw [List.length_append]; omega) h.lenX (fun e => by have := h.ltA; simp only at e; omega) (fun i hi _ e => by have := h.ltk hi; simp only at e; omega)
  · obtain ⟨K, e⟩ := h.pre; exact ⟨K ++ [⟨0, false, 25, 1, ws.map Fw⟩], by rw [← List.append_assoc, ← e]⟩
  · show (X ++ _)[X.length]? = _
    rw [List.getElem?_append_right (Nat.le_refl _), Nat.sub_self]; rfl
theorem LS.putOld (h : LS H X A v P) (hk : k < P.length) (v' : Nat) (ws : List Nat) :
    LS H ((X.set (ix P k).1 ⟨v', false, 25, 1, ws.map Fw⟩).set A ⟨v, false, 41, 1, (P.map cR).set k (.sl (ix P k).1 v' 0 ws.length none)⟩) A v (P.set k ((ix P k).1, v', ws)) := by
  obtain ⟨r1, r2, r3⟩ := h.row k hk
  exact h.put hk ((ix P k).1, v', ws) (pre_set h.pre r2 _) (List.getElem?_set_self (lt_ofX r1)) (fun j hj _ => List.getElem?_set_ne (Ne.symm hj)) (by rw [List.length_set]; exact Nat.le_refl _) r2 r3 (fun i hi hik => h.nd i k hi hk hik)
theorem LS.rd (h : LS H X A v P) : RdL X (.sl A v 0 P.length none) (P.map cR) := RdL_id h.out (List.length_map ..)
theorem LS.rdk (h : LS H X A v P) (hk : k < P.length) : RdL X (cR (ix P k)) ((ix P k).2.2.map Fw) := RdL_id (h.row k hk).1 (List.length_map ..)
theorem LS.rdl (h : LS H X A v P) : RdLL X (P.map cR) ((wR P).map fun ws => ws.map some) := by
  unfold wR
  refine All2.of_get (by simp) fun i a b ha hb => ?_
  rw [List.getElem?_map] at ha
  rw [List.map_map, List.getElem?_map] at hb
  rcases Nat.lt_or_ge i P.length with hi | hi
  · rw [ix_get? _ _ hi] at ha hb
    cases ha; cases hb
    have := h.rdk hi
    rw [← Fw_map] at this
    exact this
  · rw [List.getElem?_eq_none hi] at ha; cases ha
end
end Go.Proofs.Ytonlgkecphijoaa
