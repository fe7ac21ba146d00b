/- Levels in the laws. -/
import Derived.Test.YteejnmgjjefbiaaCl
import Derived.Test.YteejnmgjjefbiaaHl
import Derived.Test.YteejnmgjjefbiaaZo
import Derived.Test.YteejnmgjjefbiaaZy
namespace Go.Proofs.Yteejnmgjjefbiaa
open Go.RowKit
set_option linter.unusedSimpArgs false
set_option linter.unusedVariables false
set_option maxRecDepth 100000

def cQ (q : Nat × List LV) : LV := .sl q.1 0 0 q.2.length none
def oQ (q : Nat × List LV) : AO := ⟨0, false, 32, 1, q.2⟩
def totQ (Q : List (Nat × List LV)) : Nat := (Q.map fun q => q.2.length).sum
def mkQ (k : Nat) : List (Nat × List LV) → List (Nat × List LV)
  | [] => []
  | q :: Q => (q.1, (List.range q.2.length).map (mkFloat32 k)) :: mkQ (k + q.2.length) Q
theorem mkQ_len (k : Nat) (Q : List (Nat × List LV)) : (mkQ k Q).length = Q.length := by
  induction Q generalizing k with
  | nil => rfl
  | cons q Q ih => show (mkQ _ Q).length + 1 = _; rw [ih]; rfl
theorem mkQ_tot (k : Nat) (Q : List (Nat × List LV)) : totQ (mkQ k Q) = totQ Q := by
  unfold totQ
  induction Q generalizing k with
  | nil => rfl
  | cons q Q ih =>
    show ((List.range q.2.length).map (mkFloat32 k)).length + ((mkQ (k + q.2.length) Q).map fun q => q.2.length).sum = q.2.length + (Q.map fun q => q.2.length).sum
    rw [ih, List.length_map, List.length_range]
def preQ (Q : List (Nat × List LV)) (j : Nat) : Nat := totQ (Q.take j)
theorem preQ_succ {Q : List (Nat × List LV)} {j : Nat} (h : j < Q.length) : preQ Q (j + 1) = preQ Q j + (ix Q j).2.length := by
  unfold preQ totQ; rw [take_ix _ _ h]; simp
theorem preQ_le (Q : List (Nat × List LV)) (j : Nat) : preQ Q j ≤ totQ Q := by
  unfold preQ totQ
  conv => rhs; rw [← List.take_append_drop j Q]
  rw [List.map_append, List.sum_append]; omega
theorem mkQ_ix (k : Nat) (Q : List (Nat × List LV)) {j : Nat} (h : j < Q.length) : ix (mkQ k Q) j = ((ix Q j).1, (List.range (ix Q j).2.length).map (mkFloat32 (k + preQ Q j))) := by
  induction Q generalizing k j with
  | nil => exact absurd h (Nat.not_lt_zero _)
  | cons q Q ih =>
    cases j with
    | zero => rfl
    | succ j =>
      have h2 : j < Q.length := by simpa using h
      have e := ih (k := k + q.2.length) h2
      have e1 : ix (mkQ k (q :: Q)) (j + 1) = ix (mkQ (k + q.2.length) Q) j := rfl
      have e2 : ix (q :: Q) (j + 1) = ix Q j := rfl
      have e3 : preQ (q :: Q) (j + 1) = q.2.length + preQ Q j := by unfold preQ totQ; rw [List.take_succ_cons, List.map_cons, List.sum_cons]
      rw [e1, e, e2, e3, Nat.add_assoc]
theorem ix_setQ {α : Type} [Inhabited α] {xs : List α} {k j : Nat} {x : α} (hj : j < xs.length) : ix (xs.set k x) j = if k = j then x else ix xs j := by
  have h : j < (xs.set k x).length := by rw [List.length_set]; exact hj
  rw [ix_eq _ _ h, List.getElem_set, ix_eq _ _ hj]
theorem set_ixQ {α : Type} [Inhabited α] {xs : List α} {k : Nat} (h : k < xs.length) {x : α} (e : ix xs k = x) : xs.set k x = xs := by
  rw [← e, ix_eq _ _ h, List.set_getElem_self]
theorem ix_mapQ {α β : Type} [Inhabited α] [Inhabited β] (f : α → β) {xs : List α} {k : Nat} (h : k < xs.length) : ix (xs.map f) k = f (ix xs k) := by
  have h2 : k < (xs.map f).length := by rw [List.length_map]; exact h
  rw [ix_eq _ _ h2, ix_eq _ _ h, List.getElem_map]
structure Lv (X : Hp) (lo hi A : Nat) (Q : List (Nat × List LV)) : Prop where
  out : X[A]? = some ⟨0, false, 25, 1, Q.map cQ⟩
  inA : lo ≤ A ∧ A < hi
  row : ∀ k, k < Q.length → X[(ix Q k).1]? = some (oQ (ix Q k)) ∧ (lo ≤ (ix Q k).1 ∧ (ix Q k).1 < hi) ∧ (ix Q k).1 ≠ A
  nd : ∀ i k, i < Q.length → k < Q.length → i ≠ k → (ix Q i).1 ≠ (ix Q k).1
section
variable {X Y : Hp} {lo hi A : Nat} {Q : List (Nat × List LV)}
theorem Lv.frame (h : Lv X lo hi A Q) (hf : ∀ i, lo ≤ i → i < hi → Y[i]? = X[i]?) : Lv Y lo hi A Q :=
  ⟨by rw [hf _ h.inA.1 h.inA.2]; exact h.out, h.inA, fun k hk => by
    obtain ⟨r1, r2, r3⟩ := h.row k hk
    exact ⟨by rw [hf _ r2.1 r2.2]; exact r1, r2, r3⟩, h.nd⟩
theorem Lv.app (h : Lv X lo hi A Q) (hh : hi ≤ X.length) (K : Hp) : Lv (X ++ K) lo hi A Q := h.frame fun i _ h2 => List.getElem?_append_left (by omega)
theorem Lv.rd (h : Lv X lo hi A Q) : RdL X (.sl A 0 0 Q.length none) (Q.map cQ) := RdL_id h.out (List.length_map ..)
theorem Lv.at (h : Lv X lo hi A Q) {k : Nat} (hk : k < Q.length) : RdL X (cQ (ix Q k)) (ix Q k).2 := RdL_id (h.row k hk).1 rfl
theorem Lv.rdl (h : Lv X lo hi A Q) {xss : List (List (Option Nat))} (e : Q.map Prod.snd = xss.map fun xs => xs.map (LV.flt .f32)) : RdLL X (Q.map cQ) xss := by
  have hl : Q.length = xss.length := by have := congrArg List.length e; simpa using this
  refine All2.of_get (by rw [List.length_map]; exact hl) fun i a b ha hb => ?_
  have hi : i < xss.length := lt_of_getF hb
  have h1 := h.at (k := i) (by omega)
  rw [List.getElem?_map, ix_get? _ _ (by omega)] at ha
  rw [ix_get? _ _ hi] at hb
  cases ha; cases hb
  have h2 : (Q.map Prod.snd)[i]? = (xss.map fun xs => xs.map (LV.flt .f32))[i]? := by rw [e]
  rw [List.getElem?_map, List.getElem?_map, ix_get? _ _ (by omega), ix_get? _ _ hi] at h2
  have h3 : (ix Q i).2 = (ix xss i).map (LV.flt .f32) := Option.some.inj h2
  rw [h3] at h1; exact h1
theorem Lv.setk (h : Lv X lo hi A Q) {k : Nat} (hk : k < Q.length) (cs : List LV) (hc : cs.length = (ix Q k).2.length) : Lv (X.set (ix Q k).1 ⟨0, false, 32, 1, cs⟩) lo hi A (Q.set k ((ix Q k).1, cs)) := by
  obtain ⟨r1, r2, r3⟩ := h.row k hk
  have hm : (Q.set k ((ix Q k).1, cs)).map cQ = Q.map cQ := by
    rw [List.map_set]
    refine set_ixQ (by rw [List.length_map]; exact hk) ?_
    rw [ix_mapQ _ hk]; unfold cQ; rw [hc]
  refine ⟨by rw [hm, List.getElem?_set_ne r3]; exact h.out, h.inA, fun j hj => ?_, fun i j hi hj hij => ?_⟩
  · rw [List.length_set] at hj
    obtain ⟨s1, s2, s3⟩ := h.row j hj
    by_cases e : k = j
    · subst e
      rw [ix_setQ hj, if_pos rfl]
      exact ⟨List.getElem?_set_self (lt_of_getF r1), r2, r3⟩
    · rw [ix_setQ hj, if_neg e]
      exact ⟨by rw [List.getElem?_set_ne (h.nd k j hk hj e)]; exact s1, s2, s3⟩
  · rw [List.length_set] at hi hj
    have e1 : ∀ m, m < Q.length → (ix (Q.set k ((ix Q k).1, cs)) m).1 = (ix Q m).1 := fun m hm => by
      rw [ix_setQ hm]
      split
      · rename_i e; rw [e]
      · rfl
    rw [e1 i hi, e1 j hj]; exact h.nd i j hi hj hij
theorem Lv.lv (h : Lv X lo hi A Q) : liveO X A 0 = true := by simp [liveO, h.out]
theorem Lv.lvA (h : Lv X lo hi A Q) (hh : hi ≤ X.length) (L : Hp) : liveO (X ++ L) A 0 = true := (h.app hh L).lv
theorem Lv.g (h : Lv X lo hi A Q) (j : Nat) : hget X A 0 j = (Q.map cQ)[j]? := by simp [hget, h.out]
end
/-- Half marked. -/
def hmQ (k : Nat) (Q : List (Nat × List LV)) (j : Nat) : List (Nat × List LV) := (mkQ k Q).take j ++ Q.drop j
theorem hmQ_len (k : Nat) (Q : List (Nat × List LV)) {j : Nat} (h : j ≤ Q.length) : (hmQ k Q j).length = Q.length := by
  unfold hmQ; rw [List.length_append, List.length_take, List.length_drop, mkQ_len]; omega
theorem hmQ_at (k : Nat) (Q : List (Nat × List LV)) {j : Nat} (h : j < Q.length) : ix (hmQ k Q j) j = ix Q j := by
  rw [ix_eq _ _ (by rw [hmQ_len _ _ (by omega)]; exact h), ix_eq _ _ h]
  unfold hmQ
  rw [List.getElem_append_right (by rw [List.length_take, mkQ_len]; omega)]
  simp only [List.length_take, mkQ_len, List.getElem_drop]
  congr 1; omega
theorem hmQ_step (k : Nat) (Q : List (Nat × List LV)) {j : Nat} (h : j < Q.length) : (hmQ k Q j).set j (ix (mkQ k Q) j) = hmQ k Q (j + 1) := by
  unfold hmQ
  rw [List.set_append_right _ _ (by rw [List.length_take, mkQ_len]; omega), List.length_take, mkQ_len, show j - min j Q.length = 0 by omega, List.drop_eq_getElem_cons h, List.set_cons_zero, take_ix _ _ (by rw [mkQ_len]; exact h), List.append_assoc]
  rfl
theorem hmQ_0 (k : Nat) (Q : List (Nat × List LV)) : hmQ k Q 0 = Q := rfl
theorem hmQ_all (k : Nat) (Q : List (Nat × List LV)) : hmQ k Q Q.length = mkQ k Q := by
  unfold hmQ; rw [List.drop_length, List.append_nil, ← mkQ_len k, List.take_length]
def mkH (X : Hp) (k : Nat) (Q : List (Nat × List LV)) : Nat → Hp
  | 0 => X
  | j + 1 => (mkH X k Q j).set (ix Q j).1 ⟨0, false, 32, 1, (ix (mkQ k Q) j).2⟩
theorem mkH_len (X : Hp) (k : Nat) (Q : List (Nat × List LV)) : ∀ j, (mkH X k Q j).length = X.length
  | 0 => rfl
  | j + 1 => by rw [mkH, List.length_set, mkH_len X k Q j]
theorem mkH_out {X : Hp} {lo hi A : Nat} {Q : List (Nat × List LV)} (h : Lv X lo hi A Q) (k : Nat) {i : Nat} (hi : ¬ (lo ≤ i ∧ i < hi)) : ∀ j, j ≤ Q.length → (mkH X k Q j)[i]? = X[i]?
  | 0, _ => rfl
  | j + 1, hj => by
    have := (h.row j (by omega)).2.1
    rw [mkH, List.getElem?_set_ne (by omega), mkH_out h k hi j (by omega)]
theorem mkH_Lv {X : Hp} {lo hi A : Nat} {Q : List (Nat × List LV)} (h : Lv X lo hi A Q) (k : Nat) : ∀ j, j ≤ Q.length → Lv (mkH X k Q j) lo hi A (hmQ k Q j)
  | 0, _ => h
  | j + 1, hj => by
    have h1 := mkH_Lv h k j (by omega)
    have e := mkQ_ix k Q (j := j) (by omega)
    have h2 := h1.setk (k := j) (by rw [hmQ_len _ _ (by omega)]; omega) (ix (mkQ k Q) j).2 (by rw [hmQ_at _ _ (by omega), e, List.length_map, List.length_range])
    rw [hmQ_at _ _ (show j < Q.length by omega)] at h2
    rw [mkH, ← hmQ_step k Q (show j < Q.length by omega)]
    have e2 : ((ix Q j).1, (ix (mkQ k Q) j).2) = ix (mkQ k Q) j := by rw [e]
    rw [e2] at h2; exact h2
end Go.Proofs.Yteejnmgjjefbiaa

namespace Go.Proofs.Yteejnmgjjefbiaa
open Go.RowKit
set_option linter.unusedSimpArgs false
set_option linter.unusedVariables false
set_option maxRecDepth 100000

def qOf (b : Nat) (xss : List (List (Option Nat))) : List (Nat × List LV) := (List.range xss.length).map fun k => (b + k, (ix xss k).map (LV.flt .f32))
theorem qOf_len (b : Nat) (xss : List (List (Option Nat))) : (qOf b xss).length = xss.length := by simp [qOf]
theorem qOf_ix (b : Nat) (xss : List (List (Option Nat))) {k : Nat} (h : k < xss.length) : ix (qOf b xss) k = (b + k, (ix xss k).map (LV.flt .f32)) := by
  unfold qOf
  rw [ix_mapQ _ (by simpa using h), ix_eq _ _ (by simpa using h), List.getElem_range]
theorem qOf_snd (b : Nat) (xss : List (List (Option Nat))) : (qOf b xss).map Prod.snd = xss.map fun xs => xs.map (LV.flt .f32) := by
  refine List.ext_getElem (by simp [qOf]) fun k h1 h2 => ?_
  have hk : k < xss.length := by simpa using h2
  have e := qOf_ix b xss hk
  rw [ix_eq _ _ (by rw [qOf_len]; exact hk)] at e
  rw [List.getElem_map, List.getElem_map, e, ← ix_eq _ _ hk]
theorem qOf_cells (b : Nat) (xss : List (List (Option Nat))) : (qOf b xss).map cQ = rowsL b xss := by
  unfold qOf rowsL
  rw [List.map_map]
  refine List.map_congr_left fun k hk => ?_
  unfold cQ; simp
theorem totQ_of {Q : List (Nat × List LV)} {xss : List (List (Option Nat))} (e : Q.map Prod.snd = xss.map fun xs => xs.map (LV.flt .f32)) : Q.length = xss.length ∧ xss.length + totQ Q = totL xss := by
  have hl : Q.length = xss.length := by have := congrArg List.length e; simpa using this
  refine ⟨hl, ?_⟩
  have h1 : (Q.map Prod.snd).map List.length = (xss.map fun xs => xs.map (LV.flt .f32)).map List.length := by rw [e]
  rw [List.map_map, List.map_map] at h1
  unfold totQ totL stT
  rw [List.take_length]
  have h2 : (Q.map fun q => q.2.length) = Q.map (List.length ∘ Prod.snd) := rfl
  rw [h2, h1]
  congr 2
  refine List.map_congr_left fun xs _ => ?_
  simp
theorem Lv.of {H G : Hp} {a : Nat} {xss : List (List (Option Nat))} (h0 : G[a]? = some ⟨0, false, 25, 1, rowsL (H.length + (a + 1)) xss⟩) (hr : ∀ k, k < xss.length → G[a + 1 + k]? = some (rowF (ix xss k))) :
    Lv (H ++ G) H.length (H ++ G).length (H.length + a) (qOf (H.length + (a + 1)) xss) := by
  have ha := lt_of_getF h0
  refine ⟨by rw [hp_getj, h0, qOf_cells], ⟨by omega, by rw [List.length_append]; omega⟩, fun k hk => ?_, fun i k hi hk hik => ?_⟩
  · rw [qOf_len] at hk
    rw [qOf_ix _ _ hk]
    have h1 := hr k hk
    have h2 := lt_of_getF h1
    refine ⟨?_, ⟨by simp only; omega, by rw [List.length_append]; simp only; omega⟩, by simp only; omega⟩
    show (H ++ G)[H.length + (a + 1) + k]? = _
    rw [show H.length + (a + 1) + k = H.length + (a + 1 + k) by omega, hp_getj, h1]; rfl
  · rw [qOf_len] at hi hk
    rw [qOf_ix _ _ hi, qOf_ix _ _ hk]; simp only; omega
theorem mkH_app {X : Hp} {lo hi A : Nat} {Q : List (Nat × List LV)} (h : Lv X lo hi A Q) (hh : hi ≤ X.length) (k : Nat) (L : Hp) : ∀ j, j ≤ Q.length → mkH (X ++ L) k Q j = mkH X k Q j ++ L
  | 0, _ => rfl
  | j + 1, hj => by
    have := (h.row j (by omega)).2.1
    rw [mkH, mkH, mkH_app h hh k L j (by omega), List.set_append_left _ _ (by rw [mkH_len]; omega)]
theorem mkF_bnd (k i n : Nat) : bnd n (mkFloat32 k i) := by unfold mkFloat32; trivial
theorem mkH_closed {X : Hp} (h : Closed X) (k : Nat) (Q : List (Nat × List LV)) : ∀ j, j ≤ Q.length → Closed (mkH X k Q j)
  | 0, _ => h
  | j + 1, hj => by
    refine (mkH_closed h k Q j (by omega)).setScal _ _ fun c hc n => ?_
    rw [mkQ_ix _ _ (by omega)] at hc
    obtain ⟨i, _, rfl⟩ := List.mem_map.1 hc
    exact mkF_bnd _ _ _
theorem pre_of {H X : Hp} (hl : H.length ≤ X.length) (h : ∀ i, i < H.length → X[i]? = H[i]?) : ∃ K, X = H ++ K := by
  refine ⟨X.drop H.length, ?_⟩
  conv => lhs; rw [← List.take_append_drop H.length X]
  congr 1
  refine List.ext_getElem? fun i => ?_
  rcases Nat.lt_or_ge i H.length with h1 | h1
  · rw [List.getElem?_take_of_lt h1, h i h1]
  · rw [List.getElem?_eq_none (by rw [List.length_take]; omega), List.getElem?_eq_none h1]
end Go.Proofs.Yteejnmgjjefbiaa

namespace Go.Proofs.Yteejnmgjjefbiaa
open Go.RowKit
set_option linter.unusedSimpArgs false
set_option linter.unusedVariables false
set_option maxRecDepth 100000

theorem plQ_ex {F : FuncId} {args : List LV} {H : Hp} {r : Int} {ok : Bool} {R : List (List Nat) × Int} (h : FunH Try.prog F args H (plQ H r ok R)) :
    ∃ (Q : List (Nat × List LV)) (K : Hp), Lv (H ++ K) H.length (H ++ K).length H.length Q ∧ Q.map Prod.snd = ((stX ok R).map fun xs => xs.map (LV.flt .f32)) ∧
      FunH Try.prog F args H fun r' H' => r' = .tup [.agg [.int .i64 (if ok then r else 0), .int .i64 (if ok then R.2 else 0), .sl H.length 0 0 (stX ok R).length none], .bool ok] ∧ H' = H ++ K := by
  refine ⟨qOf (H.length + (0 + 1)) (stX ok R), ⟨0, false, 25, 1, rowsL (H.length + 1) (stX ok R)⟩ :: (stX ok R).map rowF, ?_, qOf_snd _ _, h⟩
  have := Lv.of (H := H) (a := 0) (xss := stX ok R) (G := ⟨0, false, 25, 1, rowsL (H.length + 1) (stX ok R)⟩ :: (stX ok R).map rowF) rfl (fun k hk => by
    rw [show 0 + 1 + k = k + 1 by omega, List.getElem?_cons_succ, List.getElem?_map, ix_get? _ _ hk]; rfl)
  exact this
theorem stX_tot (r : Int) (R : List (List Nat) × Int) (ok : Bool) (h : ok = true → stOk r R = true) : totL (stX ok R) ≤ 1048576 := by
  unfold stX
  cases ok
  · exact Nat.zero_le _
  · have h1 := h rfl
    unfold stOk at h1
    obtain ⟨h2, h3, h4, _⟩ := levB_len h1
    rw [if_pos rfl, totL_w]
    rw [List.length_map] at h2
    have := totW_le (ls := R.1) fun ws hw => by
      obtain ⟨k, hk, e⟩ := List.getElem_of_mem hw
      have h5 := h4 k (by rw [List.length_map]; exact hk)
      rw [ix_mapQ _ hk, List.length_map, ix_eq _ _ hk, e] at h5
      exact h5
    omega
theorem PtL.mkO {X : Hp} {lo hi A id ver : Nat} {Q : List (Nat × List LV)} {cs : List LV} (h : PtL X id ver cs) (hA : Lv X lo hi A Q) (k : Nat) (hn : ¬ (lo ≤ id ∧ id < hi)) : PtL (mkH X k Q Q.length) id ver cs := by
  obtain ⟨ro, el, sz, e⟩ := h
  exact ⟨ro, el, sz, by rw [mkH_out hA k hn _ (Nat.le_refl _)]; exact e⟩
theorem Lv.mkO {X : Hp} {lo hi A lo' hi' A' : Nat} {Q Q' : List (Nat × List LV)} (h : Lv X lo' hi' A' Q') (hA : Lv X lo hi A Q) (k : Nat) (hn : hi' ≤ lo ∨ hi ≤ lo') : Lv (mkH X k Q Q.length) lo' hi' A' Q' :=
  h.frame fun i h1 h2 => mkH_out hA k (by omega) _ (Nat.le_refl _)
theorem Lv.mkd {X : Hp} {lo hi A : Nat} {Q : List (Nat × List LV)} (h : Lv X lo hi A Q) (k : Nat) : Lv (mkH X k Q Q.length) lo hi A (mkQ k Q) := by
  have := mkH_Lv h k _ (Nat.le_refl _); rwa [hmQ_all] at this
theorem Lv.hi {X : Hp} {lo hi A : Nat} {Q : List (Nat × List LV)} (h : Lv X lo hi A Q) : lo < hi := by have := h.inA; omega
theorem pre_mk {H X : Hp} {lo hi A : Nat} {Q : List (Nat × List LV)} (hp : ∃ K, X = H ++ K) (hA : Lv X lo hi A Q) (k : Nat) (hl : H.length ≤ lo) : ∃ K, mkH X k Q Q.length = H ++ K := by
  obtain ⟨K, e⟩ := hp
  refine pre_of (by rw [mkH_len, e, List.length_append]; omega) fun i hi => ?_
  rw [mkH_out hA k (by omega) _ (Nat.le_refl _), e, List.getElem?_append_left hi]
end Go.Proofs.Yteejnmgjjefbiaa

namespace Go.Proofs.Yteejnmgjjefbiaa
open Go.RowKit
set_option linter.unusedSimpArgs false
set_option linter.unusedVariables false
set_option maxRecDepth 100000

theorem plQ_exN (n : Nat) (r : Int) (ok : Bool) (R : List (List Nat) × Int) :
    ∃ (Q : List (Nat × List LV)) (K : Hp), Q.map Prod.snd = ((stX ok R).map fun xs => xs.map (LV.flt .f32)) ∧ 1 ≤ K.length ∧ ∀ (F : FuncId) (args : List LV) (H : Hp), H.length = n → FunH Try.prog F args H (plQ H r ok R) →
      Lv (H ++ K) n (H ++ K).length n Q ∧ FunH Try.prog F args H fun r' H' => r' = .tup [.agg [.int .i64 (if ok then r else 0), .int .i64 (if ok then R.2 else 0), .sl n 0 0 (stX ok R).length none], .bool ok] ∧ H' = H ++ K := by
  refine ⟨qOf (n + (0 + 1)) (stX ok R), ⟨0, false, 25, 1, rowsL (n + 1) (stX ok R)⟩ :: (stX ok R).map rowF, qOf_snd _ _, by simp only [List.length_cons]; omega, fun F args H hH h => ?_⟩
  subst hH
  refine ⟨?_, h⟩
  exact Lv.of (H := H) (a := 0) (xss := stX ok R) (G := ⟨0, false, 25, 1, rowsL (H.length + 1) (stX ok R)⟩ :: (stX ok R).map rowF) rfl (fun k hk => by
    rw [show 0 + 1 + k = k + 1 by omega, List.getElem?_cons_succ, List.getElem?_map, ix_get? _ _ hk]; rfl)
/-- An object that is no row changed. -/
theorem Lv.setO {X : Hp} {lo hi A : Nat} {Q : List (Nat × List LV)} (h : Lv X lo hi A Q) {i : Nat} (o : AO) (hn : ¬ (lo ≤ i ∧ i < hi)) : Lv (X.set i o) lo hi A Q :=
  h.frame fun j h1 h2 => List.getElem?_set_ne (by omega)
theorem PtL.setO {X : Hp} {id ver i : Nat} {cs : List LV} (h : PtL X id ver cs) (o : AO) (hn : id ≠ i) : PtL (X.set i o) id ver cs := by
  obtain ⟨ro, el, sz, e⟩ := h
  exact ⟨ro, el, sz, by rw [List.getElem?_set_ne (Ne.symm hn)]; exact e⟩
theorem pre_setO {H X : Hp} (hp : ∃ K, X = H ++ K) {i : Nat} (hi : H.length ≤ i) (o : AO) : ∃ K, X.set i o = H ++ K := pre_set hp hi o
end Go.Proofs.Yteejnmgjjefbiaa

