/- Levels' rows: copies, brought in order; what PutLevels gives. -/
import Derived.Test.YtonlgkecphijoaaYc
import Derived.Test.YtonlgkecphijoaaNu
namespace Go.Proofs.Ytonlgkecphijoaa
open Go.RowKit
set_option linter.unusedSimpArgs false
set_option linter.unusedVariables false
set_option maxRecDepth 100000

/-- The rows of a copy. -/
def cpR (b : Nat) (ls : List (List Nat)) : List (Nat × Nat × List Nat) := (List.range ls.length).map fun k => (b + k, 0, ix ls k)
theorem cpR_len (b : Nat) (ls : List (List Nat)) : (cpR b ls).length = ls.length := by simp [cpR]
theorem cpR_ix (b : Nat) (ls : List (List Nat)) (k : Nat) (h : k < ls.length) : ix (cpR b ls) k = (b + k, 0, ix ls k) := by
  rw [ix_eq _ _ (by rw [cpR_len]; exact h)]; simp [cpR]
theorem wR_cpR (b : Nat) (ls : List (List Nat)) : wR (cpR b ls) = ls := by
  refine List.ext_getElem (by rw [wR_len, cpR_len]) fun k h1 h2 => ?_
  have := wR_ix (P := cpR b ls) (k := k) (by rw [cpR_len]; exact h2)
  rw [cpR_ix _ _ _ h2, ix_eq _ _ h1, ix_eq _ _ h2] at this
  exact this
theorem rowsL_cpR (b : Nat) (ls : List (List Nat)) : rowsL b (ls.map fun ws => ws.map some) = (cpR b ls).map cR := by
  unfold rowsL cpR cR
  rw [List.length_map, List.map_map]
  refine List.map_congr_left fun k hk => ?_
  rw [ix_mapA _ (List.mem_range.1 hk)]
  simp
theorem LS.copy {H : Hp} {a : Nat} {G : Hp} {ls : List (List Nat)} (h0 : G[a]? = some ⟨0, false, 41, 1, rowsL (H.length + (a + 1)) (ls.map fun ws => ws.map some)⟩) (hr : ∀ k, k < ls.length → G[a + 1 + k]? = some (rowF ((ix ls k).map some))) :
    LS H (H ++ G) (H.length + a) 0 (cpR (H.length + (a + 1)) ls) := by
  refine ⟨⟨G, rfl⟩, by rw [hp_getj, h0, rowsL_cpR], by omega, fun k hk => ?_, fun i k hi hk hik => ?_⟩
  · rw [cpR_len] at hk
    rw [cpR_ix _ _ _ hk]
    refine ⟨?_, by simp only; omega, by simp only; omega⟩
    show (H ++ G)[H.length + (a + 1) + k]? = _
    rw [show H.length + (a + 1) + k = H.length + (a + 1 + k) by omega, hp_getj, hr k hk]
    unfold rowF oR
    rw [Fw_map]
  · rw [cpR_len] at hi hk
    rw [cpR_ix _ _ _ hi, cpR_ix _ _ _ hk]
    simp only; omega
theorem words_L {xss : List (List (Option Nat))} (h : ∀ xs ∈ xss, xs.all finO = true) : ∃ ls : List (List Nat), xss = ls.map fun ws => ws.map some := by
  induction xss with
  | nil => exact ⟨[], rfl⟩
  | cons xs xss ih =>
    obtain ⟨ls, e⟩ := ih fun y hy => h y (List.mem_cons_of_mem _ hy)
    obtain ⟨ws, e2⟩ := words_of (h xs (List.mem_cons_self ..))
    exact ⟨ws :: ls, by rw [e, e2]; rfl⟩
/-- A levels' rows, brought in order behind the caller's heap. -/
def jsL (n A : Nat) (P : List (Nat × Nat × List Nat)) : List (Option Nat) := some (A - n) :: P.map fun p => some (p.1 - n)
def sxs (P : List (Nat × Nat × List Nat)) : List (List (Option Nat)) := (wR P).map fun ws => ws.map some
theorem sxs_len (P : List (Nat × Nat × List Nat)) : (sxs P).length = P.length := by unfold sxs; rw [List.length_map, wR_len]
theorem sxs_ix {P : List (Nat × Nat × List Nat)} {k : Nat} (h : k < P.length) : ix (sxs P) k = (ix P k).2.2.map some := by
  unfold sxs; rw [ix_mapA _ (by rw [wR_len]; exact h), wR_ix h]
theorem LS.cut {H X : Hp} {A v : Nat} {P : List (Nat × Nat × List Nat)} (h : LS H X A v P) :
    ∃ K, X = H ++ K ∧ ((jsL H.length A P).filterMap id).Nodup ∧ All2 (RowOk H.length K (jsL H.length A P)) (jsL H.length A P) (⟨0, false, 41, 1, rowsL (H.length + 1) (sxs P)⟩ :: (sxs P).map rowF) ∧ TdB H.length K (jsL H.length A P) (.sl A v 0 P.length none) (.sl H.length 0 0 P.length none) := by
  obtain ⟨⟨K, rfl⟩, h2, h3, h4, h5⟩ := h
  have hg : ∀ {i : Nat}, H.length ≤ i → (H ++ K)[i]? = K[i - H.length]? := fun hi => by rw [List.getElem?_append_right hi]
  rw [hg h3] at h2
  have h4' : ∀ k, k < P.length → K[(ix P k).1 - H.length]? = some (oR (ix P k)) := fun k hk => by have := (h4 k hk).1; rw [hg (h4 k hk).2.1] at this; exact this
  have hj : ∀ k, k < P.length → (jsL H.length A P)[1 + k]? = some (some ((ix P k).1 - H.length)) := fun k hk => by
    unfold jsL
    rw [Nat.add_comm, List.getElem?_cons_succ, List.getElem?_map, ix_get? _ _ hk]; rfl
  refine ⟨K, rfl, ?_, ⟨?_, ?_⟩, ?_⟩
  · have e : (jsL H.length A P).filterMap id = (A - H.length) :: P.map fun p => p.1 - H.length := by
      unfold jsL
      rw [List.filterMap_cons]
      simp only [id]
      congr 1
      rw [List.filterMap_map]
      exact List.filterMap_eq_map (f := fun p : Nat × Nat × List Nat => p.1 - H.length) ▸ rfl
    rw [e, List.nodup_cons]
    refine ⟨fun hm => ?_, ?_⟩
    · obtain ⟨p, hp, e⟩ := List.mem_map.1 hm
      obtain ⟨k, hk, e2⟩ := List.getElem_of_mem hp
      have := h4 k hk
      rw [ix_eq _ _ hk, e2] at this
      omega
    · refine List.pairwise_iff_getElem.2 fun i k hi hk hik => ?_
      rw [List.length_map] at hi hk
      rw [List.getElem_map, List.getElem_map]
      have h6 := h5 i k hi hk (by omega)
      have h7 := h4 i hi
      have h8 := h4 k hk
      rw [ix_eq _ _ hi] at h6 h7
      rw [ix_eq _ _ hk] at h6 h8
      omega
  · refine ⟨rfl, rfl, v, P.map cR, h2, by simp only; rw [rowsL_len, List.length_map, sxs_len]; exact Nat.le_refl _, ?_⟩
    simp only
    rw [rowsL_len, sxs_len, List.take_of_length_le (by rw [List.length_map]; exact Nat.le_refl _)]
    refine All2.of_get (by rw [List.length_map, rowsL_len, sxs_len]) fun i a b ha hb => ?_
    have hi : i < P.length := by have := lt_of_getF ha; rwa [List.length_map] at this
    rw [List.getElem?_map, ix_get? _ _ hi] at ha
    rw [ix_get? _ _ (by rw [rowsL_len, sxs_len]; exact hi), rowsL_ix _ _ _ (by rw [sxs_len]; exact hi), sxs_ix hi] at hb
    cases ha; cases hb
    have := TdB.own (n := H.length) (K := K) (js := jsL H.length A P) (1 + i) ((ix P i).1 - H.length) (ix P i).2.1 0 (ix P i).2.2.length none (hj i hi) _ (h4' i hi) rfl
    rw [show H.length + ((ix P i).1 - H.length) = (ix P i).1 by have := (h4 i hi).2.1; omega, show H.length + (1 + i) = H.length + 1 + i by omega] at this
    rw [List.length_map]
    exact this
  · refine All2.of_get (by rw [List.length_map, List.length_map, sxs_len]) fun i a b ha hb => ?_
    have hi : i < P.length := by have := lt_of_getF ha; rwa [List.length_map] at this
    rw [List.getElem?_map, ix_get? _ _ hi] at ha
    rw [List.getElem?_map, ix_get? _ _ (by rw [sxs_len]; exact hi), sxs_ix hi] at hb
    cases ha; cases hb
    exact RowOk.eq (h4' i hi) (by rw [← Fw_map]) (scal_flt _ _)
  · have := TdB.own (n := H.length) (K := K) (js := jsL H.length A P) 0 (A - H.length) v 0 P.length none rfl _ h2 rfl
    rw [show H.length + (A - H.length) = A by omega] at this
    exact this
theorem LS.weak {H G X : Hp} {A v : Nat} {P : List (Nat × Nat × List Nat)} (h : LS (H ++ G) X A v P) : LS H X A v P := by
  obtain ⟨⟨K, e⟩, h2, h3, h4, h5⟩ := h
  rw [List.length_append] at h3
  exact ⟨⟨G ++ K, by rw [e, List.append_assoc]⟩, h2, by omega, fun k hk => ⟨(h4 k hk).1, by have := (h4 k hk).2.1; rw [List.length_append] at this; omega, (h4 k hk).2.2⟩, h5⟩
theorem totW_le {ls : List (List Nat)} (h : ∀ ws ∈ ls, ws.length ≤ 64) : totW ls ≤ 64 * ls.length := by
  induction ls with
  | nil => exact Nat.le_refl _
  | cons a ls ih =>
    have h1 := h a (List.mem_cons_self ..)
    have h2 := ih fun ws hw => h ws (List.mem_cons_of_mem _ hw)
    show a.length + totW ls ≤ 64 * (ls.length + 1)
    omega
/-- What PutLevels gives. -/
def unw (xss : List (List (Option Nat))) : List (List Nat) := xss.map fun xs => xs.map fun x => x.getD 0
theorem unw_map (ls : List (List Nat)) : unw (ls.map fun ws => ws.map some) = ls := by
  unfold unw
  rw [List.map_map]
  conv => rhs; rw [← List.map_id ls]
  refine List.map_congr_left fun ws _ => ?_
  simp only [Function.comp, List.map_map, id]
  conv => rhs; rw [← List.map_id ws]
  exact List.map_congr_left fun w _ => rfl
def plN (ls : List (List Nat)) : Nat := 2 * totW ls + ls.length
def plS (r s : Int) (ls : List (List Nat)) : List (List Nat) × Int := stl (r / 2).toNat (plN ls) 0 ls s
def putL (ls : List (List Nat)) (w : Nat) : List (List Nat) := ls.set 0 (ix ls 0 ++ [w])
def stOk (r : Int) (R : List (List Nat) × Int) : Bool := levB r R.2 (R.1.map fun ws => ws.map some)
def plOk (r s : Int) (xss : List (List (Option Nat))) (x : Option Nat) : Bool := levB r s xss && finO x && stOk r (plS r s (putL (unw xss) (x.getD 0)))
def stX (ok : Bool) (R : List (List Nat) × Int) : List (List (Option Nat)) := if ok then R.1.map fun ws => ws.map some else []
def plQ (H : Hp) (r : Int) (ok : Bool) (R : List (List Nat) × Int) (r' : LV) (H' : Hp) : Prop :=
  r' = .tup [.agg [.int .i64 (if ok then r else 0), .int .i64 (if ok then R.2 else 0), .sl H.length 0 0 (stX ok R).length none], .bool ok] ∧
  H' = H ++ (⟨0, false, 41, 1, rowsL (H.length + 1) (stX ok R)⟩ :: (stX ok R).map rowF)
end Go.Proofs.Ytonlgkecphijoaa
