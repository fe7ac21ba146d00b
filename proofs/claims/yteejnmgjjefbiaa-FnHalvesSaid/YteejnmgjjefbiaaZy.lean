/- Levels: rows, bodies, copies, joined ones. -/
import Derived.Test.YteejnmgjjefbiaaHl
import Derived.Test.YteejnmgjjefbiaaSwa
import Derived.Test.YteejnmgjjefbiaaBw
import Derived.Test.YteejnmgjjefbiaaNu
namespace Go.Proofs.Yteejnmgjjefbiaa
open Go.RowKit
set_option linter.unusedSimpArgs false
set_option linter.unusedVariables false
set_option maxRecDepth 100000

/-! Plainly. -/
def pik (ws : List Nat) (s : Nat) : Nat → List Nat
  | 0 => []
  | t + 1 => pik ws s t ++ [ix ws (s + 2 * t)]
theorem pik_len (ws : List Nat) (s : Nat) : ∀ t, (pik ws s t).length = t
  | 0 => rfl
  | t + 1 => by show (pik ws s t ++ [_]).length = _; rw [List.length_append, pik_len ws s t]; rfl
def grw (h : Nat) (ls : List (List Nat)) : List (List Nat) := if h + 1 = ls.length then ls ++ [[]] else ls
def sdN (s : Int) : Int := (1664525 * s + 1013904223).tmod 4294967296
def stp (q h : Nat) (ls : List (List Nat)) (s : Int) : List (List Nat) :=
  ((grw h ls).set h ((ix ls h).drop (2 * q))).set (h + 1) (ix (grw h ls) (h + 1) ++ pik (srt kW ((ix ls h).take (2 * q))) (s.tmod 2).toNat q)
def stl (q : Nat) : Nat → Nat → List (List Nat) → Int → List (List Nat) × Int
  | 0, _, ls, s => (ls, s)
  | n + 1, h, ls, s => if h < ls.length then (if 2 * q ≤ (ix ls h).length then stl q n h (stp q h ls s) (sdN s) else stl q n (h + 1) ls s) else (ls, s)
theorem stl_succ (q n h : Nat) (ls : List (List Nat)) (s : Int) : stl q (n + 1) h ls s = if h < ls.length then (if 2 * q ≤ (ix ls h).length then stl q n h (stp q h ls s) (sdN s) else stl q n (h + 1) ls s) else (ls, s) := rfl
theorem stl_end {q n h : Nat} {ls : List (List Nat)} {s : Int} (hh : ¬ h < ls.length) : stl q n h ls s = (ls, s) := by
  cases n with
  | zero => rfl
  | succ n => rw [stl_succ, if_neg hh]
def totW (ls : List (List Nat)) : Nat := (ls.map List.length).sum
theorem totW_app (a b : List (List Nat)) : totW (a ++ b) = totW a + totW b := by unfold totW; rw [List.map_append, List.sum_append]
theorem totW_set {ls : List (List Nat)} {k : Nat} (h : k < ls.length) (x : List Nat) : totW (ls.set k x) + (ix ls k).length = totW ls + x.length := by
  induction ls generalizing k with
  | nil => exact absurd h (Nat.not_lt_zero _)
  | cons a ls ih =>
    cases k with
    | zero => show x.length + totW ls + a.length = a.length + totW ls + x.length; omega
    | succ k => have := ih (k := k) (by simpa using h); show a.length + totW (ls.set k x) + (ix ls k).length = a.length + totW ls + x.length; omega
theorem totW_at {ls : List (List Nat)} {k : Nat} (h : k < ls.length) : (ix ls k).length ≤ totW ls := by
  have := totW_set h []; simp only [List.length_nil] at this; omega
theorem grw_len (h : Nat) (ls : List (List Nat)) : (grw h ls).length = if h + 1 = ls.length then ls.length + 1 else ls.length := by
  unfold grw; split
  · rw [List.length_append]; rfl
  · rfl
theorem grw_tot (h : Nat) (ls : List (List Nat)) : totW (grw h ls) = totW ls := by
  unfold grw; split
  · rw [totW_app]; rfl
  · rfl
theorem ix_appL {α : Type} [Inhabited α] {a b : List α} {k : Nat} (h : k < a.length) : ix (a ++ b) k = ix a k := by
  rw [ix_eq _ _ (by rw [List.length_append]; omega), ix_eq _ _ h, List.getElem_append_left h]
theorem ix_appN {α : Type} [Inhabited α] (a : List α) (x : α) : ix (a ++ [x]) a.length = x := by
  rw [ix_eq _ _ (by simp)]; simp
theorem ix_setA {α : Type} [Inhabited α] {xs : List α} {k j : Nat} {x : α} (hj : j < xs.length) : ix (xs.set k x) j = if k = j then x else ix xs j := by
  rw [ix_eq _ _ (by simpa using hj), List.getElem_set, ix_eq _ _ hj]
theorem ix_mapA {α β : Type} [Inhabited α] [Inhabited β] (f : α → β) {xs : List α} {k : Nat} (h : k < xs.length) : ix (xs.map f) k = f (ix xs k) := by
  rw [ix_eq _ _ (by rw [List.length_map]; exact h), ix_eq _ _ h, List.getElem_map]
theorem grw_ix {h : Nat} {ls : List (List Nat)} {k : Nat} (hk : k < ls.length) : ix (grw h ls) k = ix ls k := by
  unfold grw; split
  · exact ix_appL hk
  · rfl
theorem stp_len (q h : Nat) (ls : List (List Nat)) (s : Int) : (stp q h ls s).length = if h + 1 = ls.length then ls.length + 1 else ls.length := by
  unfold stp; rw [List.length_set, List.length_set, grw_len]
theorem stp_tot {q h : Nat} {ls : List (List Nat)} (s : Int) (hh : h < ls.length) (hq : 2 * q ≤ (ix ls h).length) : totW (stp q h ls s) + q = totW ls := by
  have e := grw_len h ls
  have hg : h + 1 < (grw h ls).length := by rw [e]; split <;> omega
  have e1 := totW_set (ls := grw h ls) (k := h) (by omega) ((ix ls h).drop (2 * q))
  have e2 := totW_set (ls := (grw h ls).set h ((ix ls h).drop (2 * q))) (k := h + 1) (by rw [List.length_set]; exact hg) (ix (grw h ls) (h + 1) ++ pik (srt kW ((ix ls h).take (2 * q))) (s.tmod 2).toNat q)
  rw [ix_setA hg, if_neg (by omega), List.length_append, pik_len] at e2
  rw [grw_ix hh, grw_tot, List.length_drop] at e1
  unfold stp
  omega
theorem stl_len (q : Nat) : ∀ (n h : Nat) (ls : List (List Nat)) (s : Int), ls.length ≤ (stl q n h ls s).1.length
  | 0, _, _, _ => Nat.le_refl _
  | n + 1, h, ls, s => by
    unfold stl
    split
    · split
      · have := stl_len q n h (stp q h ls s) (sdN s)
        rw [stp_len] at this
        split at this <;> omega
      · exact stl_len q n (h + 1) ls s
    · exact Nat.le_refl _
theorem sdN_in {s : Int} (h : 0 ≤ s ∧ s ≤ 4294967295) : 0 ≤ sdN s ∧ sdN s ≤ 4294967295 := by
  unfold sdN
  have h1 := Int.tmod_nonneg (a := 1664525 * s + 1013904223) 4294967296 (by omega)
  have h2 := Int.tmod_lt_of_pos (1664525 * s + 1013904223) (b := 4294967296) (by omega)
  omega

theorem RdL_pre {H : Hp} {id ver el m : Nat} {ro : Bool} {cs : List LV} (h : H[id]? = some ⟨ver, ro, el, 1, cs⟩) (hm : m ≤ cs.length) : RdL H (.sl id ver 0 m none) (cs.take m) := by
  refine ⟨by rw [List.length_take]; exact congrArg some (by omega), ?_, by unfold szO; rw [h], fun k hk => by cases hk⟩
  simp only [cellsOf, Nat.mul_one, hgets, h]
  simp [hm]
theorem RdL_suf {H : Hp} {id ver el m : Nat} {ro : Bool} {cs : List LV} (h : H[id]? = some ⟨ver, ro, el, 1, cs⟩) (hm : m ≤ cs.length) : RdL H (.sl id ver m (cs.length - m) none) (cs.drop m) := by
  refine ⟨by rw [List.length_drop]; rfl, ?_, by unfold szO; rw [h], fun k hk => by cases hk⟩
  simp only [cellsOf, Nat.mul_one, hgets, h]
  have e : m + (cs.length - m) ≤ cs.length := by omega
  simp only [e, and_self, ite_true, reduceIte]
  rw [List.take_of_length_le (by rw [List.length_drop]; exact Nat.le_refl _)]
/-! Where the lists lie. -/
def cR (p : Nat × Nat × List Nat) : LV := .sl p.1 p.2.1 0 p.2.2.length none
def oR (p : Nat × Nat × List Nat) : AO := ⟨p.2.1, false, 32, 1, p.2.2.map Fw⟩
def wR (P : List (Nat × Nat × List Nat)) : List (List Nat) := P.map fun p => p.2.2
theorem wR_len (P : List (Nat × Nat × List Nat)) : (wR P).length = P.length := List.length_map ..
theorem wR_ix {P : List (Nat × Nat × List Nat)} {k : Nat} (h : k < P.length) : ix (wR P) k = (ix P k).2.2 := ix_mapA _ h
theorem cR_cells (P : List (Nat × Nat × List Nat)) : (P.map cR).all LV.isCell = true := by
  rw [List.all_eq_true]; intro x hx; obtain ⟨p, _, rfl⟩ := List.mem_map.1 hx; rfl
structure LS (H X : Hp) (A v : Nat) (P : List (Nat × Nat × List Nat)) : Prop where
  pre : ∃ K, X = H ++ K
  out : X[A]? = some ⟨v, false, 25, 1, P.map cR⟩
  lo : H.length ≤ A
  row : ∀ k, k < P.length → X[(ix P k).1]? = some (oR (ix P k)) ∧ H.length ≤ (ix P k).1 ∧ (ix P k).1 ≠ A
  nd : ∀ i k, i < P.length → k < P.length → i ≠ k → (ix P i).1 ≠ (ix P k).1
section
variable {H X Y : Hp} {A v k : Nat} {P : List (Nat × Nat × List Nat)}
theorem lt_ofX {i : Nat} {o : AO} (h : X[i]? = some o) : i < X.length := by
  rcases Nat.lt_or_ge i X.length with h' | h'
  · exact h'
  · rw [List.getElem?_eq_none h'] at h; cases h
theorem LS.ltA (h : LS H X A v P) : A < X.length := lt_ofX h.out
theorem LS.ltk (h : LS H X A v P) (hk : k < P.length) : (ix P k).1 < X.length := lt_ofX (h.row k hk).1
theorem LS.lenX (h : LS H X A v P) : H.length ≤ X.length := by obtain ⟨K, e⟩ := h.pre; rw [e, List.length_append]; omega
theorem LS.app (h : LS H X A v P) (K : Hp) : LS H (X ++ K) A v P := by
  obtain ⟨⟨K0, e0⟩, h2, h3, h4, h5⟩ := h
  have hl : ∀ {i : Nat} {o : AO}, X[i]? = some o → (X ++ K)[i]? = some o := fun hi => by rw [List.getElem?_append_left (lt_ofX hi)]; exact hi
  exact ⟨⟨K0 ++ K, by rw [e0, List.append_assoc]⟩, hl h2, h3, fun k hk => ⟨hl (h4 k hk).1, (h4 k hk).2⟩, h5⟩
theorem pre_set (h : ∃ K, X = H ++ K) {b : Nat} (hb : H.length ≤ b) (o : AO) : ∃ K, X.set b o = H ++ K := by
  obtain ⟨K, e⟩ := h
  exact ⟨K.set (b - H.length) o, by rw [e, List.set_append_right _ _ hb]⟩
theorem LS.setN (h : LS H X A v P) {b : Nat} (o : AO) (hb : H.length ≤ b) (hA : A ≠ b) (hn : ∀ k, k < P.length → (ix P k).1 ≠ b) : LS H (X.set b o) A v P :=
  ⟨pre_set h.pre hb o, by rw [List.getElem?_set_ne (Ne.symm hA)]; exact h.out, h.lo, fun k hk => ⟨by rw [List.getElem?_set_ne (Ne.symm (hn k hk))]; exact (h.row k hk).1, (h.row k hk).2⟩, h.nd⟩
theorem LS.grow (h : LS H X A v P) : LS H (X.set A ⟨v + 1, false, 25, 1, P.map cR ++ [.sl X.length 0 0 0 none]⟩ ++ [⟨0, false, 32, 1, []⟩]) A (v + 1) (P ++ [(X.length, 0, [])]) := by
  have hA := h.ltA
  have hl : (X.set A ⟨v + 1, false, 25, 1, P.map cR ++ [.sl X.length 0 0 0 none]⟩).length = X.length := List.length_set
  refine ⟨?_, ?_, h.lo, fun k hk => ?_, fun i k hi hk hik => ?_⟩
  · obtain ⟨K, e⟩ := pre_set h.pre h.lo ⟨v + 1, false, 25, 1, P.map cR ++ [.sl X.length 0 0 0 none]⟩
    exact ⟨K ++ [⟨0, false, 32, 1, []⟩], by rw [e, List.append_assoc]⟩
  · rw [List.getElem?_append_left (by rw [hl]; exact hA), List.getElem?_set_self hA, List.map_append]; rfl
  · rw [List.length_append] at hk
    rcases Nat.lt_or_ge k P.length with h1 | h1
    · rw [ix_appL h1]
      obtain ⟨r1, r2, r3⟩ := h.row k h1
      exact ⟨by rw [List.getElem?_append_left (by rw [hl]; exact lt_ofX r1), List.getElem?_set_ne (Ne.symm r3)]; exact r1, r2, r3⟩
    · obtain rfl : k = P.length := by simp only [List.length_cons, List.length_nil] at hk; omega
      rw [ix_appN]
      refine ⟨?_, h.lenX, fun e => by simp only at e; omega⟩
      show (_ ++ _)[X.length]? = _
      rw [List.getElem?_append_right (by rw [hl]; exact Nat.le_refl _), hl, Nat.sub_self]; rfl
  · rw [List.length_append] at hi hk
    simp only [List.length_cons, List.length_nil] at hi hk
    rcases Nat.lt_or_ge i P.length with h1 | h1
    · rcases Nat.lt_or_ge k P.length with h2 | h2
      · rw [ix_appL h1, ix_appL h2]; exact h.nd i k h1 h2 hik
      · obtain rfl : k = P.length := by omega
        rw [ix_appL h1, ix_appN]; have := h.ltk h1; simp only; omega
    · obtain rfl : i = P.length := by omega
      rw [ix_appN, ix_appL (by omega)]; have := h.ltk (k := k) (by omega); simp only; omega
theorem LS.put (h : LS H X A v P) (hk : k < P.length) (q : Nat × Nat × List Nat) (hpre : ∃ K, Y = H ++ K) (hY : Y[q.1]? = some (oR q)) (hs : ∀ j, j ≠ q.1 → j < X.length → Y[j]? = X[j]?) (hl : X.length ≤ Y.length) (q1 : H.length ≤ q.1) (qA : q.1 ≠ A) (q2 : ∀ i, i < P.length → i ≠ k → (ix P i).1 ≠ q.1) :
    LS H (Y.set A ⟨v, false, 25, 1, (P.map cR).set k (cR q)⟩) A v (P.set k q) := by
  refine ⟨pre_set hpre h.lo _, ?_, h.lo, fun j hj => ?_, fun i j hi hj hij => ?_⟩
  · rw [List.getElem?_set_self (Nat.lt_of_lt_of_le h.ltA hl), List.map_set]
  · rw [List.length_set] at hj
    rw [ix_setA hj]
    split
    · exact ⟨by rw [List.getElem?_set_ne (Ne.symm qA)]; exact hY, q1, qA⟩
    · rename_i hne
      obtain ⟨r1, r2, r3⟩ := h.row j hj
      exact ⟨by rw [List.getElem?_set_ne (Ne.symm r3), hs _ (q2 j hj (Ne.symm hne)) (lt_ofX r1)]; exact r1, r2, r3⟩
  · rw [List.length_set] at hi hj
    rw [ix_setA hi, ix_setA hj]
    split
    · split
      · omega
      · rename_i e1 e2; exact Ne.symm (q2 j hj (Ne.symm e2))
    · split
      · rename_i e1 e2; exact q2 i hi (Ne.symm e1)
      · exact h.nd i j hi hj hij
theorem LS.putNew (h : LS H X A v P) (hk : k < P.length) (ws : List Nat) :
    LS H ((X ++ [(⟨0, false, 32, 1, ws.map Fw⟩ : AO)]).set A ⟨v, false, 25, 1, (P.map cR).set k (.sl X.length 0 0 ws.length none)⟩) A v (P.set k (X.length, 0, ws)) := by
  refine h.put (Y := X ++ [⟨0, false, 32, 1, ws.map Fw⟩]) hk (X.length, 0, ws) ?_ ?_ (fun j _ hj => by rw [List.getElem?_append_left hj]) (by rw [List.length_append]; omega) h.lenX (fun e => by have := h.ltA; simp only at e; omega) (fun i hi _ e => by have := h.ltk hi; simp only at e; omega)
  · obtain ⟨K, e⟩ := h.pre; exact ⟨K ++ [⟨0, false, 32, 1, ws.map Fw⟩], by rw [← List.append_assoc, ← e]⟩
  · show (X ++ _)[X.length]? = _
    rw [List.getElem?_append_right (Nat.le_refl _), Nat.sub_self]; rfl
theorem LS.putOld (h : LS H X A v P) (hk : k < P.length) (v' : Nat) (ws : List Nat) :
    LS H ((X.set (ix P k).1 ⟨v', false, 32, 1, ws.map Fw⟩).set A ⟨v, false, 25, 1, (P.map cR).set k (.sl (ix P k).1 v' 0 ws.length none)⟩) A v (P.set k ((ix P k).1, v', ws)) := by
  obtain ⟨r1, r2, r3⟩ := h.row k hk
  exact h.put hk ((ix P k).1, v', ws) (pre_set h.pre r2 _) (List.getElem?_set_self (lt_ofX r1)) (fun j hj _ => List.getElem?_set_ne (Ne.symm hj)) (by rw [List.length_set]; exact Nat.le_refl _) r2 r3 (fun i hi hik => h.nd i k hi hk hik)
theorem LS.rd (h : LS H X A v P) : RdL X (.sl A v 0 P.length none) (P.map cR) := RdL_id h.out (List.length_map ..)
theorem LS.rdk (h : LS H X A v P) (hk : k < P.length) : RdL X (cR (ix P k)) ((ix P k).2.2.map Fw) := RdL_id (h.row k hk).1 (List.length_map ..)
theorem LS.rdl (h : LS H X A v P) : RdLL X (P.map cR) ((wR P).map fun ws => ws.map some) := by
  unfold wR
  refine All2.of_get (by simp) fun i a b ha hb => ?_
  rw [List.getElem?_map] at ha
  rw [List.map_map, List.getElem?_map] at hb
  rcases Nat.lt_or_ge i P.length with hi | hi
  · rw [ix_get? _ _ hi] at ha hb
    cases ha; cases hb
    have := h.rdk hi
    rw [← Fw_map] at this
    exact this
  · rw [List.getElem?_eq_none hi] at ha; cases ha
end
end Go.Proofs.Yteejnmgjjefbiaa

namespace Go.Proofs.Yteejnmgjjefbiaa
open Go.RowKit
set_option linter.unusedSimpArgs false
set_option linter.unusedVariables false
set_option maxRecDepth 100000

theorem hget_at {H : Hp} {id ver el sz off : Nat} {ro : Bool} {cs : List LV} (h : H[id]? = some ⟨ver, ro, el, sz, cs⟩) : hget H id ver off = cs[off]? := by simp [hget, h]
theorem liveO_at {H : Hp} {id ver el sz : Nat} {ro : Bool} {cs : List LV} (h : H[id]? = some ⟨ver, ro, el, sz, cs⟩) : liveO H id ver = true := by simp [liveO, h]
theorem hputA_at {H : Hp} {id ver el sz off : Nat} {cs ys : List LV} (h : H[id]? = some ⟨ver, false, el, sz, cs⟩) (h1 : off + ys.length ≤ cs.length) : hput H id ver off ys = some (H.set id ⟨ver, false, el, sz, sets cs off ys⟩) := by
  simp [hput, h, h1]
theorem szO_at {H : Hp} {id ver el sz : Nat} {ro : Bool} {cs : List LV} (h : H[id]? = some ⟨ver, ro, el, sz, cs⟩) : szO H id = sz := by simp [szO, h]
/-- The box of levels. -/
def bxL (r s : Int) (A v n : Nat) : AO := ⟨0, false, 29, 3, [.int .i64 r, .int .i64 s, .sl A v 0 n none]⟩
def rsL : AO := ⟨0, false, 29, 3, [.int .i64 0, .int .i64 0, .nils]⟩
structure SS (H Z : Hp) (B : Nat) (r s : Int) (A v : Nat) (P : List (Nat × Nat × List Nat)) : Prop where
  ls : LS H Z A v P
  box : Z[B]? = some (bxL r s A v P.length)
  res : Z[B + 1]? = some rsL
  lo : H.length ≤ B
  nA : A ≠ B ∧ A ≠ B + 1
  nk : ∀ k, k < P.length → (ix P k).1 ≠ B ∧ (ix P k).1 ≠ B + 1
section
variable {H X Z : Hp} {B A v k : Nat} {r s : Int} {P : List (Nat × Nat × List Nat)}
theorem LS.start (h : LS H X A v P) (r s : Int) : SS H (X ++ [bxL r s A v P.length, rsL]) X.length r s A v P := by
  have hA := h.ltA
  exact ⟨h.app _, (hp_get0 _ _).trans rfl, (hp_getj _ _ _).trans rfl, h.lenX, ⟨by omega, by omega⟩, fun k hk => by have := h.ltk hk; omega⟩
theorem SS.ltB (h : SS H Z B r s A v P) : B < Z.length := lt_ofX h.box
theorem SS.ltR (h : SS H Z B r s A v P) : B + 1 < Z.length := lt_ofX h.res
theorem SS.app (h : SS H Z B r s A v P) (K : Hp) : SS H (Z ++ K) B r s A v P :=
  ⟨h.ls.app K, by rw [List.getElem?_append_left h.ltB]; exact h.box, by rw [List.getElem?_append_left h.ltR]; exact h.res, h.lo, h.nA, h.nk⟩
theorem SS.setB (h : SS H Z B r s A v P) (s' : Int) : SS H (Z.set B (bxL r s' A v P.length)) B r s' A v P :=
  ⟨h.ls.setN _ h.lo h.nA.1 (fun k hk => (h.nk k hk).1), by rw [List.getElem?_set_self h.ltB], by rw [List.getElem?_set_ne (by omega)]; exact h.res, h.lo, h.nA, h.nk⟩
theorem SS.putNew (h : SS H Z B r s A v P) (hk : k < P.length) (ws : List Nat) :
    SS H ((Z ++ [(⟨0, false, 32, 1, ws.map Fw⟩ : AO)]).set A ⟨v, false, 25, 1, (P.map cR).set k (.sl Z.length 0 0 ws.length none)⟩) B r s A v (P.set k (Z.length, 0, ws)) := by
  have hb := h.ltB
  have hr := h.ltR
  refine ⟨h.ls.putNew hk ws, ?_, ?_, h.lo, h.nA, fun j hj => ?_⟩
  · rw [List.getElem?_set_ne h.nA.1, List.getElem?_append_left hb, List.length_set]; exact h.box
  · rw [List.getElem?_set_ne h.nA.2, List.getElem?_append_left hr]; exact h.res
  · rw [List.length_set] at hj
    rw [ix_setA hj]
    split
    · exact ⟨by simp only; omega, by simp only; omega⟩
    · exact h.nk j hj
theorem SS.putOld (h : SS H Z B r s A v P) (hk : k < P.length) (v' : Nat) (ws : List Nat) :
    SS H ((Z.set (ix P k).1 ⟨v', false, 32, 1, ws.map Fw⟩).set A ⟨v, false, 25, 1, (P.map cR).set k (.sl (ix P k).1 v' 0 ws.length none)⟩) B r s A v (P.set k ((ix P k).1, v', ws)) := by
  refine ⟨h.ls.putOld hk v' ws, ?_, ?_, h.lo, h.nA, fun j hj => ?_⟩
  · rw [List.getElem?_set_ne h.nA.1, List.getElem?_set_ne (h.nk k hk).1, List.length_set]; exact h.box
  · rw [List.getElem?_set_ne h.nA.2, List.getElem?_set_ne (h.nk k hk).2]; exact h.res
  · rw [List.length_set] at hj
    rw [ix_setA hj]
    split
    · exact h.nk k hk
    · exact h.nk j hj
theorem SS.grow (h : SS H Z B r s A v P) :
    SS H ((Z.set A ⟨v + 1, false, 25, 1, P.map cR ++ [.sl Z.length 0 0 0 none]⟩).set B (bxL r s A (v + 1) (P.length + 1)) ++ [⟨0, false, 32, 1, []⟩]) B r s A (v + 1) (P ++ [(Z.length, 0, [])]) := by
  have hb := h.ltB
  have hr := h.ltR
  have hl : (Z.set A ⟨v + 1, false, 25, 1, P.map cR ++ [.sl Z.length 0 0 0 none]⟩).length = Z.length := List.length_set
  have hn : ∀ k, k < (P ++ [(Z.length, 0, [])]).length → (ix (P ++ [(Z.length, 0, [])]) k).1 ≠ B ∧ (ix (P ++ [(Z.length, 0, [])]) k).1 ≠ B + 1 := fun k hk => by
    rw [List.length_append] at hk
    simp only [List.length_cons, List.length_nil] at hk
    rcases Nat.lt_or_ge k P.length with h1 | h1
    · rw [ix_appL h1]; exact h.nk k h1
    · obtain rfl : k = P.length := by omega
      rw [ix_appN]; exact ⟨by simp only; omega, by simp only; omega⟩
  have e : (Z.set A ⟨v + 1, false, 25, 1, P.map cR ++ [.sl Z.length 0 0 0 none]⟩).set B (bxL r s A (v + 1) (P.length + 1)) ++ [(⟨0, false, 32, 1, []⟩ : AO)] = (Z.set A ⟨v + 1, false, 25, 1, P.map cR ++ [.sl Z.length 0 0 0 none]⟩ ++ [(⟨0, false, 32, 1, []⟩ : AO)]).set B (bxL r s A (v + 1) (P.length + 1)) := by
    rw [List.set_append_left _ _ (by rw [hl]; exact hb)]
  rw [e]
  refine ⟨h.ls.grow.setN _ h.lo h.nA.1 (fun k hk => (hn k hk).1), ?_, ?_, h.lo, h.nA, hn⟩
  · rw [List.getElem?_set_self (by rw [List.length_append, hl]; omega), List.length_append]; rfl
  · rw [List.getElem?_set_ne (by omega), List.getElem?_append_left (by rw [hl]; exact hr), List.getElem?_set_ne h.nA.2]; exact h.res
end
/-! For the walks. -/
section
variable {H Z : Hp} {B A v k : Nat} {r s : Int} {P : List (Nat × Nat × List Nat)}
theorem at_app {i : Nat} {o : AO} (h : Z[i]? = some o) (L : Hp) : (Z ++ L)[i]? = some o := by rw [List.getElem?_append_left (lt_ofX h)]; exact h
theorem SS.lvB (h : SS H Z B r s A v P) : liveO Z B 0 = true := liveO_at h.box
theorem SS.lvBA (h : SS H Z B r s A v P) (L : Hp) : liveO (Z ++ L) B 0 = true := liveO_at (at_app h.box L)
theorem SS.lvR (h : SS H Z B r s A v P) : liveO Z (B + 1) 0 = true := liveO_at h.res
theorem SS.lvA (h : SS H Z B r s A v P) : liveO Z A v = true := liveO_at h.ls.out
theorem SS.lvAA (h : SS H Z B r s A v P) (L : Hp) : liveO (Z ++ L) A v = true := liveO_at (at_app h.ls.out L)
theorem SS.lvk (h : SS H Z B r s A v P) {i0 v0 : Nat} {w0 : List Nat} (hk : k < P.length) (hi : ix P k = (i0, v0, w0)) : Z[i0]? = some ⟨v0, false, 32, 1, w0.map Fw⟩ := by
  have := (h.ls.row k hk).1; rw [hi] at this; exact this
theorem SS.gB (h : SS H Z B r s A v P) (j : Nat) : hget Z B 0 j = ([.int .i64 r, .int .i64 s, .sl A v 0 P.length none] : List LV)[j]? := hget_at h.box
theorem SS.gBA (h : SS H Z B r s A v P) (L : Hp) (j : Nat) : hget (Z ++ L) B 0 j = ([.int .i64 r, .int .i64 s, .sl A v 0 P.length none] : List LV)[j]? := hget_at (at_app h.box L)
theorem SS.gA (h : SS H Z B r s A v P) (j : Nat) : hget Z A v j = (P.map cR)[j]? := hget_at h.ls.out
theorem SS.gAA (h : SS H Z B r s A v P) (L : Hp) (j : Nat) : hget (Z ++ L) A v j = (P.map cR)[j]? := hget_at (at_app h.ls.out L)
theorem SS.bS (h : SS H Z B r s A v P) (o : AO) (L : Hp) : ((Z ++ L).set A o)[B]? = some (bxL r s A v P.length) := by rw [List.getElem?_set_ne h.nA.1]; exact at_app h.box L
theorem SS.bSl (h : SS H Z B r s A v P) (o : AO) (L : Hp) : liveO ((Z ++ L).set A o) B 0 = true := liveO_at (h.bS o L)
theorem SS.bSp (h : SS H Z B r s A v P) (o : AO) (L : Hp) (x : LV) : hput ((Z ++ L).set A o) B 0 2 [x] = some (((Z ++ L).set A o).set B ⟨0, false, 29, 3, [.int .i64 r, .int .i64 s, x]⟩) := hputA_at (h.bS o L) (by simp)
theorem SS.pB1 (h : SS H Z B r s A v P) (x : LV) : hput Z B 0 1 [x] = some (Z.set B ⟨0, false, 29, 3, [.int .i64 r, x, .sl A v 0 P.length none]⟩) := hputA_at h.box (by simp)
theorem SS.pA (h : SS H Z B r s A v P) (hk : k < P.length) (L : Hp) (x : LV) : hput (Z ++ L) A v k [x] = some ((Z ++ L).set A ⟨v, false, 25, 1, (P.map cR).set k x⟩) := hputA_at (at_app h.ls.out L) (by simp; omega)
end
/-- A nil row made an object of its own. -/
theorem SS.grown {H Z : Hp} {B A v : Nat} {r s : Int} {P : List (Nat × Nat × List Nat)} (h : SS H Z B r s A v P) :
    (((Z.set A ⟨v + 1, false, 25, 1, P.map cR ++ [LV.nils]⟩).set B (bxL r s A (v + 1) (P.length + 1))).set A ⟨v + 1, false, 25, 1, (P.map cR ++ [LV.nils]).set P.length (LV.sl ((Z.set A ⟨v + 1, false, 25, 1, P.map cR ++ [LV.nils]⟩).set B (bxL r s A (v + 1) (P.length + 1))).length 0 0 0 none)⟩) ++ [(⟨0, false, 32, 1, []⟩ : AO)] =
    (Z.set A ⟨v + 1, false, 25, 1, P.map cR ++ [LV.sl Z.length 0 0 0 none]⟩).set B (bxL r s A (v + 1) (P.length + 1)) ++ [(⟨0, false, 32, 1, []⟩ : AO)] := by
  rw [List.set_comm _ _ (Ne.symm h.nA.1), List.set_set, List.length_set, List.length_set, List.set_append_right _ _ (by simp)]
  simp
theorem set_ixE {α : Type} [Inhabited α] {xs : List α} {k : Nat} (h : k < xs.length) {x : α} (e : ix xs k = x) : xs.set k x = xs := by
  rw [← e, ix_eq _ _ h, List.set_getElem_self]
theorem totL_w (ls : List (List Nat)) : totL (ls.map fun ws => ws.map some) = ls.length + totW ls := by
  unfold totL stT totW
  rw [List.take_length, List.map_map, List.length_map]
  congr 2
  refine List.map_congr_left fun x _ => ?_
  simp
/-- What settling gives. -/
def stQ (H : Hp) (A : Nat) (r : Int) (R : List (List Nat) × Int) (r' : LV) (X' : Hp) : Prop :=
  if levB r R.2 (R.1.map fun ws => ws.map some) then ∃ v' P', r' = .tup [.agg [.int .i64 r, .int .i64 R.2, .sl A v' 0 P'.length none], .bool true] ∧ wR P' = R.1 ∧ LS H X' A v' P'
  else r' = .tup [.agg [.int .i64 0, .int .i64 0, .nils], .bool false] ∧ ∃ K, X' = H ++ K
set_option maxHeartbeats 2000000 in
theorem copyLevels_c (r s : Int) (v : LV) (L : List LV) (xss : List (List (Option Nat))) (H : Hp) (h : RdL H v L) (hL : RdLL H L xss) (hn : totL xss ≤ 1048576) :
    FunH Try.prog 18 [.agg [.int .i64 r, .int .i64 s, v]] H fun r' H' => r' = .agg [.int .i64 r, .int .i64 s, .sl (H.length + 2) 0 0 xss.length none] ∧
      H' = H ++ (⟨0, false, 29, 3, [.int .i64 r, .int .i64 s, .sl (H.length + 2) 0 0 xss.length none]⟩ :: ⟨0, false, 29, 3, [.int .i64 r, .int .i64 s, .sl (H.length + 2) 0 0 xss.length none]⟩ :: ⟨0, false, 25, 1, rowsL (H.length + 3) xss⟩ :: xss.map rowF) := by
  have hlen := hL.length
  have hll := h.lenL hL
  have hb : xss.length ≤ 1048576 := by unfold totL at hn; omega
  have hrl := rowsL_len (H.length + 3) xss
  have hmk : ∀ (te : TE) (el : Nat) (L : Hp), te.by_ * xss.length ≤ 140737488355328 → amake te el L (xss.length : Int) (xss.length : Int) = some (.sl L.length 0 0 xss.length none, L ++ [⟨0, false, el, te.sz, zeros te.zs xss.length⟩]) := fun te el L h3 => amake_ok (Nat.le_refl _) (by omega) h3
  (refine FunH_body tyOk Try.func18 rfl (by kernel_rfl) Try.ntmps18 (fun hcl hbd => ?_); simp only [List.length_cons, List.length_nil, Nat.reduceAdd, Nat.reduceSub, List.replicate, List.cons_append, List.nil_append])
  repeat' (first
 | ((with_reducible refine hK _ _ ?_); clear hK K)
 | ((first | (with_reducible show AOp _ _ _ _ _ _ _)); simp (disch := first | ((with_reducible show liveO _ _ _ = true); first | assumption | (exact liveO_setS (by assumption)) | (exact PtL.live (by assumption)) | (exact PtL.liveA (by assumption) _) | (simp only [go_sem]; done)) | omega | assumption | rfl | (simp only [go_sem]; first | done | omega)) only [go_sem, reduceIte, reduceCtorEq, Nat.reduceAdd, Nat.reduceMul, Nat.reduceSub, Nat.reduceLeDiff, Nat.lt_irrefl, Nat.reduceLT, Nat.reduceEqDiff, Nat.reduceBEq, Int.reduceLE, Int.reduceLT, Int.reduceToNat, w64, eq_self, hll, h.isCell, hmk])
 | (with_reducible refine AW_seq (fun K hK => ?_))
 | (with_reducible refine AW_region tyOk ?_)
 | (with_reducible refine AOps_cons (fun K hK => ?_))
 | ((with_reducible refine AOps_nil ?_); try simp only [thenA, blockA, if_true, if_false, reduceIte, Nat.reduceEqDiff, reduceCtorEq])
 | (with_reducible refine AW_block ?_)
 | ((first | (with_reducible refine AW_ret ?_) | (with_reducible refine AW_skip ?_) | (with_reducible refine AW_exit ?_)); try simp only [thenA, blockA, if_true, if_false, reduceIte, Nat.reduceEqDiff, reduceCtorEq])
 | ((with_reducible show AW _ _ (.cond _ _ _) _ _ _); refine AW_cond rfl (fun hg => ?_) (fun hg => ?_) <;> first | (exfalso; simp only [reduceCtorEq] at hg; done) | ((try simp only [Bool.not_eq_true', Bool.not_eq_false', decide_eq_true_eq, decide_eq_false_iff_not] at hg); try (exfalso; omega)))
 | ((with_reducible show _ ∧ _); refine And.intro (fun hg => ?_) (fun hg => ?_) <;> (try simp only [Bool.not_eq_true', Bool.not_eq_false'] at hg) <;> simp only [hg] <;> (try simp only [decide_eq_true_eq, decide_eq_false_iff_not] at hg) <;> (try (exfalso; omega)))
 | ((with_reducible apply FunH_intro); (first | exact Clone_float32_c _ _ _ (by first | assumption | exact RdL.app (by assumption) _ | exact RdL_hj rfl (by simp) | exact RdL_h0 rfl (by simp) | exact RdL_nil | exact RdL_emp) (by first | assumption | omega | (simp; omega) | (simp; done))))
 | (clear hK K)
    | fail)
  refine AW_loopV [4, 5, 13, 14, 15, 16, 17, 18, 19, 20, 21, 22, 23] (fun p : Nat × Hp => [(13, .int .i64 (p.1 : Nat))]) (fun p => H ++ (⟨0, false, 29, 3, [.int .i64 r, .int .i64 s, v]⟩ :: ⟨0, false, 29, 3, [.int .i64 0, .int .i64 0, .nils]⟩ :: ⟨0, false, 25, 1, (rowsL (H.length + 3) xss).take p.1 ++ List.replicate (xss.length - p.1) .nils⟩ :: p.2)) (fun p => p.1 ≤ xss.length ∧ p.2 = (xss.take p.1).map rowF) (fun p => xss.length - p.1) (0, []) ⟨Nat.zero_le _, by simp⟩ ?_ ?_ ?_
  · simp only [junkAll, setAll, List.foldl_cons, List.foldl_nil, List.set_cons_succ, List.set_cons_zero, JL, true_or, or_true, and_true, true_and, reduceCtorEq, false_or, or_false, LV.int.injEq, LV.bool.injEq, LV.flt.injEq, LV.sl.injEq, LV.ptr.injEq, eq_self, Int.natCast_add, Int.natCast_one, Int.natCast_zero, Int.ofNat_zero]
  · simp
  · intro ⟨k, G⟩ ⟨hk, hG⟩ K hK
    simp only at hk hG
    have hGl : G.length = k := by rw [hG]; simp; omega
    simp only [junkAll, setAll, List.foldl_cons, List.foldl_nil, List.set_cons_succ, List.set_cons_zero]
    by_cases hks : k < xss.length
    · have hi := hL.at hks
      have hni : (ix xss k).length ≤ 1048576 := by have := stT_at hks; unfold totL at hn; omega
      repeat' (first
 | ((with_reducible refine hK _ _ ?_); clear hK K)
 | ((first | (with_reducible show AOp _ _ _ _ _ _ _)); simp (disch := first | ((with_reducible show liveO _ _ _ = true); first | assumption | (exact liveO_setS (by assumption)) | (exact PtL.live (by assumption)) | (exact PtL.liveA (by assumption) _) | (simp only [go_sem]; done)) | omega | assumption | rfl | (simp only [go_sem]; first | done | omega)) only [go_sem, reduceIte, reduceCtorEq, Nat.reduceAdd, Nat.reduceMul, Nat.reduceSub, Nat.reduceLeDiff, Nat.lt_irrefl, Nat.reduceLT, Nat.reduceEqDiff, Nat.reduceBEq, Int.reduceLE, Int.reduceLT, Int.reduceToNat, w64, eq_self, hll, h.idxA, h.ldxA, hrl])
 | (with_reducible refine AW_seq (fun K hK => ?_))
 | (with_reducible refine AW_region tyOk ?_)
 | (with_reducible refine AOps_cons (fun K hK => ?_))
 | ((with_reducible refine AOps_nil ?_); try simp only [thenA, blockA, if_true, if_false, reduceIte, Nat.reduceEqDiff, reduceCtorEq])
 | (with_reducible refine AW_block ?_)
 | ((first | (with_reducible refine AW_ret ?_) | (with_reducible refine AW_skip ?_) | (with_reducible refine AW_exit ?_)); try simp only [thenA, blockA, if_true, if_false, reduceIte, Nat.reduceEqDiff, reduceCtorEq])
 | ((with_reducible show AW _ _ (.cond _ _ _) _ _ _); refine AW_cond rfl (fun hg => ?_) (fun hg => ?_) <;> first | (exfalso; simp only [reduceCtorEq] at hg; done) | ((try simp only [Bool.not_eq_true', Bool.not_eq_false', decide_eq_true_eq, decide_eq_false_iff_not] at hg); try (exfalso; omega)))
 | ((with_reducible show _ ∧ _); refine And.intro (fun hg => ?_) (fun hg => ?_) <;> (try simp only [Bool.not_eq_true', Bool.not_eq_false'] at hg) <;> simp only [hg] <;> (try simp only [decide_eq_true_eq, decide_eq_false_iff_not] at hg) <;> (try (exfalso; omega)))
 | ((with_reducible apply FunH_intro); (first | exact Clone_float32_c _ _ _ (hi.app _) (by omega) | exact Clone_float32_c _ _ _ (by first | assumption | exact RdL.app (by assumption) _ | exact RdL_hj rfl (by simp) | exact RdL_h0 rfl (by simp) | exact RdL_nil | exact RdL_emp) (by first | assumption | omega | (simp; omega) | (simp; done))))
 | (clear hK K)
        | fail)
      refine hK _ _ (k + 1, G ++ [rowF (ix xss k)]) ⟨by simp only; omega, ?_⟩ (by simp only; omega) ?_ ?_
      · rw [take_ix _ _ hks, List.map_append, ← hG]; rfl
      · simp only [junkAll, setAll, List.foldl_cons, List.foldl_nil, List.set_cons_succ, List.set_cons_zero, JL, true_or, or_true, and_true, true_and, reduceCtorEq, false_or, or_false, LV.int.injEq, LV.bool.injEq, LV.flt.injEq, LV.sl.injEq, LV.ptr.injEq, eq_self, Int.natCast_add, Int.natCast_one, Int.natCast_zero, Int.ofNat_zero]
      · have e := fill_id .nils (rowsL (H.length + 3) xss) k (by omega)
        rw [rowsL_ix _ _ _ hks, hrl] at e
        simp only [← e, hGl]
        simp [rowF, Nat.add_assoc, Nat.add_comm 3 k]
    · repeat' (first
 | ((with_reducible refine hK _ _ ?_); clear hK K)
 | ((first | (with_reducible show AOp _ _ _ _ _ _ _)); simp (disch := first | ((with_reducible show liveO _ _ _ = true); first | assumption | (exact liveO_setS (by assumption)) | (exact PtL.live (by assumption)) | (exact PtL.liveA (by assumption) _) | (simp only [go_sem]; done)) | omega | assumption | rfl | (simp only [go_sem]; first | done | omega)) only [go_sem, reduceIte, reduceCtorEq, Nat.reduceAdd, Nat.reduceMul, Nat.reduceSub, Nat.reduceLeDiff, Nat.lt_irrefl, Nat.reduceLT, Nat.reduceEqDiff, Nat.reduceBEq, Int.reduceLE, Int.reduceLT, Int.reduceToNat, w64, eq_self, hll, h.idxA, h.ldxA])
 | (with_reducible refine AW_seq (fun K hK => ?_))
 | (with_reducible refine AW_region tyOk ?_)
 | (with_reducible refine AOps_cons (fun K hK => ?_))
 | ((with_reducible refine AOps_nil ?_); try simp only [thenA, blockA, if_true, if_false, reduceIte, Nat.reduceEqDiff, reduceCtorEq])
 | (with_reducible refine AW_block ?_)
 | ((first | (with_reducible refine AW_ret ?_) | (with_reducible refine AW_skip ?_) | (with_reducible refine AW_exit ?_)); try simp only [thenA, blockA, if_true, if_false, reduceIte, Nat.reduceEqDiff, reduceCtorEq])
 | ((with_reducible show AW _ _ (.cond _ _ _) _ _ _); refine AW_cond rfl (fun hg => ?_) (fun hg => ?_) <;> first | (exfalso; simp only [reduceCtorEq] at hg; done) | ((try simp only [Bool.not_eq_true', Bool.not_eq_false', decide_eq_true_eq, decide_eq_false_iff_not] at hg); try (exfalso; omega)))
 | ((with_reducible show _ ∧ _); refine And.intro (fun hg => ?_) (fun hg => ?_) <;> (try simp only [Bool.not_eq_true', Bool.not_eq_false'] at hg) <;> simp only [hg] <;> (try simp only [decide_eq_true_eq, decide_eq_false_iff_not] at hg) <;> (try (exfalso; omega)))
 | ((with_reducible apply FunH_intro); (first | exact Clone_float32_c _ _ _ (by first | assumption | exact RdL.app (by assumption) _ | exact RdL_hj rfl (by simp) | exact RdL_h0 rfl (by simp) | exact RdL_nil | exact RdL_emp) (by first | assumption | omega | (simp; omega) | (simp; done))))
 | (clear hK K)
        | fail)
      have e : k = xss.length := by omega
      subst e
      rw [hG, List.take_length, List.take_of_length_le (Nat.le_of_eq hrl), Nat.sub_self]
      refine EndA_same (by first | exact Or.inr rfl | exact Or.inl rfl) (by simp only [Try.results18, resA, aresL, go_sem] <;> rfl) ?_
      exact ⟨rfl, by simp⟩
end Go.Proofs.Yteejnmgjjefbiaa

namespace Go.Proofs.Yteejnmgjjefbiaa
open Go.RowKit
set_option linter.unusedSimpArgs false
set_option linter.unusedVariables false
set_option maxRecDepth 100000

/-- The rows of a copy. -/
def cpR (b : Nat) (ls : List (List Nat)) : List (Nat × Nat × List Nat) := (List.range ls.length).map fun k => (b + k, 0, ix ls k)
theorem cpR_len (b : Nat) (ls : List (List Nat)) : (cpR b ls).length = ls.length := by simp [cpR]
theorem cpR_ix (b : Nat) (ls : List (List Nat)) (k : Nat) (h : k < ls.length) : ix (cpR b ls) k = (b + k, 0, ix ls k) := by
  rw [ix_eq _ _ (by rw [cpR_len]; exact h)]; simp [cpR]
theorem wR_cpR (b : Nat) (ls : List (List Nat)) : wR (cpR b ls) = ls := by
  refine List.ext_getElem (by rw [wR_len, cpR_len]) fun k h1 h2 => ?_
  have := wR_ix (P := cpR b ls) (k := k) (by rw [cpR_len]; exact h2)
  rw [cpR_ix _ _ _ h2, ix_eq _ _ h1, ix_eq _ _ h2] at this
  exact this
theorem rowsL_cpR (b : Nat) (ls : List (List Nat)) : rowsL b (ls.map fun ws => ws.map some) = (cpR b ls).map cR := by
  unfold rowsL cpR cR
  rw [List.length_map, List.map_map]
  refine List.map_congr_left fun k hk => ?_
  rw [ix_mapA _ (List.mem_range.1 hk)]
  simp
theorem LS.copy {H : Hp} {a : Nat} {G : Hp} {ls : List (List Nat)} (h0 : G[a]? = some ⟨0, false, 25, 1, rowsL (H.length + (a + 1)) (ls.map fun ws => ws.map some)⟩) (hr : ∀ k, k < ls.length → G[a + 1 + k]? = some (rowF ((ix ls k).map some))) :
    LS H (H ++ G) (H.length + a) 0 (cpR (H.length + (a + 1)) ls) := by
  refine ⟨⟨G, rfl⟩, by rw [hp_getj, h0, rowsL_cpR], by omega, fun k hk => ?_, fun i k hi hk hik => ?_⟩
  · rw [cpR_len] at hk
    rw [cpR_ix _ _ _ hk]
    refine ⟨?_, by simp only; omega, by simp only; omega⟩
    show (H ++ G)[H.length + (a + 1) + k]? = _
    rw [show H.length + (a + 1) + k = H.length + (a + 1 + k) by omega, hp_getj, hr k hk]
    unfold rowF oR
    rw [Fw_map]
  · rw [cpR_len] at hi hk
    rw [cpR_ix _ _ _ hi, cpR_ix _ _ _ hk]
    simp only; omega
theorem words_L {xss : List (List (Option Nat))} (h : ∀ xs ∈ xss, xs.all finO = true) : ∃ ls : List (List Nat), xss = ls.map fun ws => ws.map some := by
  induction xss with
  | nil => exact ⟨[], rfl⟩
  | cons xs xss ih =>
    obtain ⟨ls, e⟩ := ih fun y hy => h y (List.mem_cons_of_mem _ hy)
    obtain ⟨ws, e2⟩ := words_of (h xs (List.mem_cons_self ..))
    exact ⟨ws :: ls, by rw [e, e2]; rfl⟩
/-- A levels' rows, brought in order behind the caller's heap. -/
def jsL (n A : Nat) (P : List (Nat × Nat × List Nat)) : List (Option Nat) := some (A - n) :: P.map fun p => some (p.1 - n)
def sxs (P : List (Nat × Nat × List Nat)) : List (List (Option Nat)) := (wR P).map fun ws => ws.map some
theorem sxs_len (P : List (Nat × Nat × List Nat)) : (sxs P).length = P.length := by unfold sxs; rw [List.length_map, wR_len]
theorem sxs_ix {P : List (Nat × Nat × List Nat)} {k : Nat} (h : k < P.length) : ix (sxs P) k = (ix P k).2.2.map some := by
  unfold sxs; rw [ix_mapA _ (by rw [wR_len]; exact h), wR_ix h]
theorem LS.cut {H X : Hp} {A v : Nat} {P : List (Nat × Nat × List Nat)} (h : LS H X A v P) :
    ∃ K, X = H ++ K ∧ ((jsL H.length A P).filterMap id).Nodup ∧ All2 (RowOk H.length K (jsL H.length A P)) (jsL H.length A P) (⟨0, false, 25, 1, rowsL (H.length + 1) (sxs P)⟩ :: (sxs P).map rowF) ∧ TdB H.length K (jsL H.length A P) (.sl A v 0 P.length none) (.sl H.length 0 0 P.length none) := by
  obtain ⟨⟨K, rfl⟩, h2, h3, h4, h5⟩ := h
  have hg : ∀ {i : Nat}, H.length ≤ i → (H ++ K)[i]? = K[i - H.length]? := fun hi => by rw [List.getElem?_append_right hi]
  rw [hg h3] at h2
  have h4' : ∀ k, k < P.length → K[(ix P k).1 - H.length]? = some (oR (ix P k)) := fun k hk => by have := (h4 k hk).1; rw [hg (h4 k hk).2.1] at this; exact this
  have hj : ∀ k, k < P.length → (jsL H.length A P)[1 + k]? = some (some ((ix P k).1 - H.length)) := fun k hk => by
    unfold jsL
    rw [Nat.add_comm, List.getElem?_cons_succ, List.getElem?_map, ix_get? _ _ hk]; rfl
  refine ⟨K, rfl, ?_, ⟨?_, ?_⟩, ?_⟩
  · have e : (jsL H.length A P).filterMap id = (A - H.length) :: P.map fun p => p.1 - H.length := by
      unfold jsL
      rw [List.filterMap_cons]
      simp only [id]
      congr 1
      rw [List.filterMap_map]
      exact List.filterMap_eq_map (f := fun p : Nat × Nat × List Nat => p.1 - H.length) ▸ rfl
    rw [e, List.nodup_cons]
    refine ⟨fun hm => ?_, ?_⟩
    · obtain ⟨p, hp, e⟩ := List.mem_map.1 hm
      obtain ⟨k, hk, e2⟩ := List.getElem_of_mem hp
      have := h4 k hk
      rw [ix_eq _ _ hk, e2] at this
      omega
    · refine List.pairwise_iff_getElem.2 fun i k hi hk hik => ?_
      rw [List.length_map] at hi hk
      rw [List.getElem_map, List.getElem_map]
      have h6 := h5 i k hi hk (by omega)
      have h7 := h4 i hi
      have h8 := h4 k hk
      rw [ix_eq _ _ hi] at h6 h7
      rw [ix_eq _ _ hk] at h6 h8
      omega
  · refine ⟨rfl, rfl, v, P.map cR, h2, by simp only; rw [rowsL_len, List.length_map, sxs_len]; exact Nat.le_refl _, ?_⟩
    simp only
    rw [rowsL_len, sxs_len, List.take_of_length_le (by rw [List.length_map]; exact Nat.le_refl _)]
    refine All2.of_get (by rw [List.length_map, rowsL_len, sxs_len]) fun i a b ha hb => ?_
    have hi : i < P.length := by have := lt_of_getF ha; rwa [List.length_map] at this
    rw [List.getElem?_map, ix_get? _ _ hi] at ha
    rw [ix_get? _ _ (by rw [rowsL_len, sxs_len]; exact hi), rowsL_ix _ _ _ (by rw [sxs_len]; exact hi), sxs_ix hi] at hb
    cases ha; cases hb
    have := TdB.own (n := H.length) (K := K) (js := jsL H.length A P) (1 + i) ((ix P i).1 - H.length) (ix P i).2.1 0 (ix P i).2.2.length none (hj i hi) _ (h4' i hi) rfl
    rw [show H.length + ((ix P i).1 - H.length) = (ix P i).1 by have := (h4 i hi).2.1; omega, show H.length + (1 + i) = H.length + 1 + i by omega] at this
    rw [List.length_map]
    exact this
  · refine All2.of_get (by rw [List.length_map, List.length_map, sxs_len]) fun i a b ha hb => ?_
    have hi : i < P.length := by have := lt_of_getF ha; rwa [List.length_map] at this
    rw [List.getElem?_map, ix_get? _ _ hi] at ha
    rw [List.getElem?_map, ix_get? _ _ (by rw [sxs_len]; exact hi), sxs_ix hi] at hb
    cases ha; cases hb
    exact RowOk.eq (h4' i hi) (by rw [← Fw_map]) (scal_flt _ _)
  · have := TdB.own (n := H.length) (K := K) (js := jsL H.length A P) 0 (A - H.length) v 0 P.length none rfl _ h2 rfl
    rw [show H.length + (A - H.length) = A by omega] at this
    exact this
theorem LS.weak {H G X : Hp} {A v : Nat} {P : List (Nat × Nat × List Nat)} (h : LS (H ++ G) X A v P) : LS H X A v P := by
  obtain ⟨⟨K, e⟩, h2, h3, h4, h5⟩ := h
  rw [List.length_append] at h3
  exact ⟨⟨G ++ K, by rw [e, List.append_assoc]⟩, h2, by omega, fun k hk => ⟨(h4 k hk).1, by have := (h4 k hk).2.1; rw [List.length_append] at this; omega, (h4 k hk).2.2⟩, h5⟩
theorem totW_le {ls : List (List Nat)} (h : ∀ ws ∈ ls, ws.length ≤ 64) : totW ls ≤ 64 * ls.length := by
  induction ls with
  | nil => exact Nat.le_refl _
  | cons a ls ih =>
    have h1 := h a (List.mem_cons_self ..)
    have h2 := ih fun ws hw => h ws (List.mem_cons_of_mem _ hw)
    show a.length + totW ls ≤ 64 * (ls.length + 1)
    omega
/-- What PutLevels gives. -/
def unw (xss : List (List (Option Nat))) : List (List Nat) := xss.map fun xs => xs.map fun x => x.getD 0
theorem unw_map (ls : List (List Nat)) : unw (ls.map fun ws => ws.map some) = ls := by
  unfold unw
  rw [List.map_map]
  conv => rhs; rw [← List.map_id ls]
  refine List.map_congr_left fun ws _ => ?_
  simp only [Function.comp, List.map_map, id]
  conv => rhs; rw [← List.map_id ws]
  exact List.map_congr_left fun w _ => rfl
def plN (ls : List (List Nat)) : Nat := 2 * totW ls + ls.length
def plS (r s : Int) (ls : List (List Nat)) : List (List Nat) × Int := stl (r / 2).toNat (plN ls) 0 ls s
def putL (ls : List (List Nat)) (w : Nat) : List (List Nat) := ls.set 0 (ix ls 0 ++ [w])
def stOk (r : Int) (R : List (List Nat) × Int) : Bool := levB r R.2 (R.1.map fun ws => ws.map some)
def plOk (r s : Int) (xss : List (List (Option Nat))) (x : Option Nat) : Bool := levB r s xss && finO x && stOk r (plS r s (putL (unw xss) (x.getD 0)))
def stX (ok : Bool) (R : List (List Nat) × Int) : List (List (Option Nat)) := if ok then R.1.map fun ws => ws.map some else []
def plQ (H : Hp) (r : Int) (ok : Bool) (R : List (List Nat) × Int) (r' : LV) (H' : Hp) : Prop :=
  r' = .tup [.agg [.int .i64 (if ok then r else 0), .int .i64 (if ok then R.2 else 0), .sl H.length 0 0 (stX ok R).length none], .bool ok] ∧
  H' = H ++ (⟨0, false, 25, 1, rowsL (H.length + 1) (stX ok R)⟩ :: (stX ok R).map rowF)
end Go.Proofs.Yteejnmgjjefbiaa

namespace Go.Proofs.Yteejnmgjjefbiaa
open Go.RowKit
set_option linter.unusedSimpArgs false
set_option linter.unusedVariables false
set_option maxRecDepth 100000

theorem LS.add {H X : Hp} {A v : Nat} {P : List (Nat × Nat × List Nat)} (h : LS H X A v P) (q : Nat × Nat × List Nat) (hi : X[q.1]? = some (oR q)) (h1 : H.length ≤ q.1) (h2 : q.1 ≠ A) (h3 : ∀ k, k < P.length → (ix P k).1 ≠ q.1) :
    LS H (X.set A ⟨v + 1, false, 25, 1, P.map cR ++ [cR q]⟩) A (v + 1) (P ++ [q]) := by
  have hA := h.ltA
  refine ⟨pre_set h.pre h.lo _, ?_, h.lo, fun k hk => ?_, fun j k hj hk hjk => ?_⟩
  · rw [List.getElem?_set_self hA, List.map_append]; rfl
  · rw [List.length_append] at hk
    rcases Nat.lt_or_ge k P.length with h5 | h5
    · rw [ix_appL h5]
      obtain ⟨r1, r2, r3⟩ := h.row k h5
      exact ⟨by rw [List.getElem?_set_ne (Ne.symm r3)]; exact r1, r2, r3⟩
    · obtain rfl : k = P.length := by simp only [List.length_cons, List.length_nil] at hk; omega
      rw [ix_appN]
      exact ⟨by rw [List.getElem?_set_ne (Ne.symm h2)]; exact hi, h1, h2⟩
  · rw [List.length_append] at hj hk
    simp only [List.length_cons, List.length_nil] at hj hk
    rcases Nat.lt_or_ge j P.length with h5 | h5
    · rcases Nat.lt_or_ge k P.length with h6 | h6
      · rw [ix_appL h5, ix_appL h6]; exact h.nd j k h5 h6 hjk
      · obtain rfl : k = P.length := by omega
        rw [ix_appL h5, ix_appN]; exact h3 j h5
    · obtain rfl : j = P.length := by omega
      rw [ix_appN, ix_appL (by omega)]; exact Ne.symm (h3 k (by omega))
theorem grownE {Z : Hp} {A C : Nat} (hA : A < Z.length) (hC : C < Z.length) (hne : A ≠ C) (T E o1 b o2 : AO) :
    (((Z ++ [T]).set A o1).set C b).set A o2 ++ [E] = ((Z ++ [T, E]).set A o2).set C b := by
  have h1 : C < (Z.set A o2).length := by rw [List.length_set]; exact hC
  rw [List.set_comm _ _ (Ne.symm hne), List.set_set, List.set_append_left _ _ hA, List.set_append_left _ _ h1, List.set_append_left _ _ hA, List.set_append_left _ _ h1, List.append_assoc]
  rfl
/-- A nil row behind the rows told as a new row of its own. -/
theorem grownW {He Z : Hp} {tm : List LV} {A C v : Nat} {P : List (Nat × Nat × List Nat)} (hA : A < Z.length) (hC : C < Z.length) (hne : A ≠ C) (T b : AO) :
    Wk He tm (((Z ++ [T]).set A ⟨v, false, 25, 1, P.map cR ++ [LV.nils]⟩).set C b) tm (((Z ++ [T, ⟨0, false, 32, 1, []⟩]).set A ⟨v, false, 25, 1, P.map cR ++ [.sl (Z.length + 1) 0 0 0 none]⟩).set C b) := by
  have hw := Wk.virtC (He := He) (tm := tm) (H := ((Z ++ [T]).set A ⟨v, false, 25, 1, P.map cR ++ [LV.nils]⟩).set C b) (o := ⟨v, false, 25, 1, P.map cR ++ [LV.nils]⟩) A P.length 32 1
    (by rw [List.getElem?_set_ne (Ne.symm hne), List.getElem?_set_self (by rw [List.length_append]; omega)]) (by simp)
  have e1 : (((Z ++ [T]).set A ⟨v, false, 25, 1, P.map cR ++ [LV.nils]⟩).set C b).length = Z.length + 1 := by simp
  have e2 : ∀ x : LV, (P.map cR ++ [LV.nils]).set P.length x = P.map cR ++ [x] := fun x => by rw [List.set_append_right _ _ (by simp), List.length_map, Nat.sub_self]; rfl
  rw [e1] at hw
  simp only [e2] at hw
  rw [grownE hA hC hne] at hw
  exact hw
end Go.Proofs.Yteejnmgjjefbiaa

namespace Go.Proofs.Yteejnmgjjefbiaa
open Go.RowKit
set_option linter.unusedSimpArgs false
set_option linter.unusedVariables false
set_option maxRecDepth 100000

def mgG (m : List (List Nat)) (k : Nat) : List (List Nat) := if k = m.length then m ++ [[]] else m
/-- Rows of b put behind those of a, the first k. -/
def mgS (la lb : List (List Nat)) : Nat → List (List Nat)
  | 0 => la
  | k + 1 => (mgG (mgS la lb k) k).set k (ix (mgG (mgS la lb k) k) k ++ ix lb k)
theorem mgG_len (m : List (List Nat)) (k : Nat) : (mgG m k).length = if k = m.length then m.length + 1 else m.length := by
  unfold mgG; split
  · rw [List.length_append]; rfl
  · rfl
theorem mgG_tot (m : List (List Nat)) (k : Nat) : totW (mgG m k) = totW m := by
  unfold mgG; split
  · rw [totW_app]; rfl
  · rfl
theorem mgS_len (la lb : List (List Nat)) : ∀ k, (mgS la lb k).length = max la.length k ∨ k < la.length ∧ (mgS la lb k).length = la.length
  | 0 => Or.inl (by show la.length = _; omega)
  | k + 1 => by
    have h1 := mgS_len la lb k
    have h2 := mgG_len (mgS la lb k) k
    have h3 : (mgS la lb (k + 1)).length = (mgG (mgS la lb k) k).length := List.length_set
    rw [h3, h2]
    split <;> omega
theorem mgS_len' (la lb : List (List Nat)) (k : Nat) : (mgS la lb k).length = max la.length k := by
  have := mgS_len la lb k; omega
theorem mgS_tot (la lb : List (List Nat)) : ∀ k, k ≤ lb.length → totW (mgS la lb k) = totW la + totW (lb.take k)
  | 0, _ => rfl
  | k + 1, hk => by
    have h1 := mgS_tot la lb k (by omega)
    have h2 := mgG_len (mgS la lb k) k
    have h3 := mgS_len' la lb k
    have h4 := totW_set (ls := mgG (mgS la lb k) k) (k := k) (by rw [h2]; split <;> omega) (ix (mgG (mgS la lb k) k) k ++ ix lb k)
    rw [mgG_tot, List.length_append] at h4
    have h5 : totW (lb.take (k + 1)) = totW (lb.take k) + (ix lb k).length := by rw [take_ix _ _ (show k < lb.length by omega), totW_app]; rfl
    show totW ((mgG (mgS la lb k) k).set k _) = _
    omega
structure SM (H Z : Hp) (B : Nat) (r s : Int) (A v : Nat) (P : List (Nat × Nat × List Nat)) : Prop where
  ls : LS H Z A v P
  box : Z[B]? = some (bxL r s A v P.length)
  lo : H.length ≤ B
  nA : A ≠ B
  nk : ∀ k, k < P.length → (ix P k).1 ≠ B
section
variable {H Z : Hp} {B A v k : Nat} {r s : Int} {P : List (Nat × Nat × List Nat)}
theorem LS.startM (h : LS H Z A v P) (r s : Int) : SM H (Z ++ [bxL r s A v P.length]) Z.length r s A v P :=
  ⟨h.app _, (hp_get0 _ _).trans rfl, h.lenX, by have := h.ltA; omega, fun k hk => by have := h.ltk hk; omega⟩
theorem SM.ltB (h : SM H Z B r s A v P) : B < Z.length := lt_ofX h.box
theorem SM.lvB (h : SM H Z B r s A v P) : liveO Z B 0 = true := liveO_at h.box
theorem SM.lvBA (h : SM H Z B r s A v P) (L : Hp) : liveO (Z ++ L) B 0 = true := liveO_at (at_app h.box L)
theorem SM.lvA (h : SM H Z B r s A v P) : liveO Z A v = true := liveO_at h.ls.out
theorem SM.lvAA (h : SM H Z B r s A v P) (L : Hp) : liveO (Z ++ L) A v = true := liveO_at (at_app h.ls.out L)
theorem SM.gB (h : SM H Z B r s A v P) (j : Nat) : hget Z B 0 j = ([.int .i64 r, .int .i64 s, .sl A v 0 P.length none] : List LV)[j]? := hget_at h.box
theorem SM.gBA (h : SM H Z B r s A v P) (L : Hp) (j : Nat) : hget (Z ++ L) B 0 j = ([.int .i64 r, .int .i64 s, .sl A v 0 P.length none] : List LV)[j]? := hget_at (at_app h.box L)
theorem SM.gA (h : SM H Z B r s A v P) (j : Nat) : hget Z A v j = (P.map cR)[j]? := hget_at h.ls.out
theorem SM.gAA (h : SM H Z B r s A v P) (L : Hp) (j : Nat) : hget (Z ++ L) A v j = (P.map cR)[j]? := hget_at (at_app h.ls.out L)
theorem SM.bS (h : SM H Z B r s A v P) (o : AO) (L : Hp) : ((Z ++ L).set A o)[B]? = some (bxL r s A v P.length) := by rw [List.getElem?_set_ne h.nA]; exact at_app h.box L
theorem SM.bSl (h : SM H Z B r s A v P) (o : AO) (L : Hp) : liveO ((Z ++ L).set A o) B 0 = true := liveO_at (h.bS o L)
theorem SM.bSp (h : SM H Z B r s A v P) (o : AO) (L : Hp) (x : LV) : hput ((Z ++ L).set A o) B 0 2 [x] = some (((Z ++ L).set A o).set B ⟨0, false, 29, 3, [.int .i64 r, .int .i64 s, x]⟩) := hputA_at (h.bS o L) (by simp)
theorem SM.pA (h : SM H Z B r s A v P) (hk : k < P.length) (L : Hp) (x : LV) : hput (Z ++ L) A v k [x] = some ((Z ++ L).set A ⟨v, false, 25, 1, (P.map cR).set k x⟩) := hputA_at (at_app h.ls.out L) (by simp; omega)
theorem SM.pA0 (h : SM H Z B r s A v P) (hk : k < P.length) (x : LV) : hput Z A v k [x] = some (Z.set A ⟨v, false, 25, 1, (P.map cR).set k x⟩) := hputA_at h.ls.out (by simp; omega)
theorem SM.app (h : SM H Z B r s A v P) (K : Hp) : SM H (Z ++ K) B r s A v P := ⟨h.ls.app K, at_app h.box K, h.lo, h.nA, h.nk⟩
theorem SM.add (h : SM H Z B r s A v P) (q : Nat × Nat × List Nat) (hi : Z[q.1]? = some (oR q)) (h1 : H.length ≤ q.1) (h2 : q.1 ≠ A) (h3 : ∀ k, k < P.length → (ix P k).1 ≠ q.1) (h4 : q.1 ≠ B) :
    SM H ((Z.set A ⟨v + 1, false, 25, 1, P.map cR ++ [cR q]⟩).set B (bxL r s A (v + 1) (P.length + 1))) B r s A (v + 1) (P ++ [q]) := by
  have hb := h.ltB
  have hn : ∀ k, k < (P ++ [q]).length → (ix (P ++ [q]) k).1 ≠ B := fun k hk => by
    rw [List.length_append] at hk
    simp only [List.length_cons, List.length_nil] at hk
    rcases Nat.lt_or_ge k P.length with h6 | h6
    · rw [ix_appL h6]; exact h.nk k h6
    · obtain rfl : k = P.length := by omega
      rw [ix_appN]; exact h4
  refine ⟨(h.ls.add q hi h1 h2 h3).setN _ h.lo h.nA hn, ?_, h.lo, h.nA, hn⟩
  rw [List.getElem?_set_self (by rw [List.length_set]; exact hb), List.length_append]; rfl
theorem SM.addN (h : SM H Z B r s A v P) (L : Hp) (j : Nat) (ws : List Nat) (hj : L[j]? = some ⟨0, false, 32, 1, ws.map Fw⟩) :
    SM H (((Z ++ L).set A ⟨v + 1, false, 25, 1, P.map cR ++ [.sl (Z.length + j) 0 0 ws.length none]⟩).set B (bxL r s A (v + 1) (P.length + 1))) B r s A (v + 1) (P ++ [(Z.length + j, 0, ws)]) := by
  have h1 := h.ls.ltA
  have h2 := h.ls.lenX
  have h3 := h.ltB
  exact (h.app L).add (Z.length + j, 0, ws) (by rw [hp_getj, hj]; rfl) (by simp only; omega) (by simp only; omega) (fun k hk => by have := h.ls.ltk hk; simp only; omega) (by simp only; omega)
theorem SM.putOld (h : SM H Z B r s A v P) (hk : k < P.length) (v' : Nat) (ws : List Nat) :
    SM H ((Z.set (ix P k).1 ⟨v', false, 32, 1, ws.map Fw⟩).set A ⟨v, false, 25, 1, (P.map cR).set k (.sl (ix P k).1 v' 0 ws.length none)⟩) B r s A v (P.set k ((ix P k).1, v', ws)) := by
  refine ⟨h.ls.putOld hk v' ws, ?_, h.lo, h.nA, fun j hj => ?_⟩
  · rw [List.getElem?_set_ne h.nA, List.getElem?_set_ne (h.nk k hk), List.length_set]; exact h.box
  · rw [List.length_set] at hj
    rw [ix_setA hj]
    split
    · exact h.nk k hk
    · exact h.nk j hj
end
/-- An append to a row of one's own, whatever its length. -/
theorem aapp5 {el id ver n m : Nat} {H : Hp} {cs news : List LV} (hn : cs.length = n) (hc : cs.all LV.isCell = true) (hm : news.length = m) (hb : n + m ≤ 1048576) :
    ∃ v5 : Nat, ∀ te : TE, te.sz = 1 → te.by_ = 4 → aappO te el H id ver 0 n none m news (some ⟨ver, false, el, 1, cs⟩) = some (.sl id v5 0 (n + m) none, H.set id ⟨v5, false, el, 1, cs ++ news⟩) := by
  by_cases h0 : m = 0
  · have hz : news = [] := List.eq_nil_of_length_eq_zero (by omega)
    subst hz
    subst h0
    refine ⟨ver, fun te hs hby => ?_⟩
    unfold aappO
    simp only [hs, hby]
    rw [if_neg (by simp), if_neg (by simp), if_neg (by simp), if_neg (by simp), if_pos (by omega), List.append_nil]
    rfl
  · refine ⟨ver + 1, fun te hs hby => ?_⟩
    unfold aappO
    simp only [hs, hby]
    rw [if_neg (by simp), if_neg (by simp), if_neg (by simp), if_neg (by simp), if_neg (by omega), if_pos ⟨trivial, by omega, hc, by omega, by omega⟩]
def mlOk (r s r2 s2 : Int) (xss yss : List (List (Option Nat))) : Bool := levB r s xss && levB r2 s2 yss && (r == r2) && stOk r (plS r s (mgS (unw xss) (unw yss) yss.length))
end Go.Proofs.Yteejnmgjjefbiaa

