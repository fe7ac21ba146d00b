/- Levels in the laws: what PutLevels and MergeLevels give. -/
import Derived.Test.YtonlgkecphijoaaYh
import Derived.Test.YtonlgkecphijoaaYd
namespace Go.Proofs.Ytonlgkecphijoaa
open Go.RowKit
set_option linter.unusedSimpArgs false
set_option linter.unusedVariables false
set_option maxRecDepth 100000

theorem plQ_ex {F : FuncId} {args : List LV} {H : Hp} {r : Int} {ok : Bool} {R : List (List Nat) × Int} (h : FunH Try.prog F args H (plQ H r ok R)) :
    ∃ (Q : List (Nat × List LV)) (K : Hp), Lv (H ++ K) H.length (H ++ K).length H.length Q ∧ Q.map Prod.snd = ((stX ok R).map fun xs => xs.map (LV.flt .f32)) ∧
      FunH Try.prog F args H fun r' H' => r' = .tup [.agg [.int .i64 (if ok then r else 0), .int .i64 (if ok then R.2 else 0), .sl H.length 0 0 (stX ok R).length none], .bool ok] ∧ H' = H ++ K := by
  refine ⟨qOf (H.length + (0 + 1)) (stX ok R), ⟨0, false, 41, 1, rowsL (H.length + 1) (stX ok R)⟩ :: (stX ok R).map rowF, ?_, qOf_snd _ _, h⟩
  have := Lv.of (H := H) (a := 0) (xss := stX ok R) (G := ⟨0, false, 41, 1, rowsL (H.length + 1) (stX ok R)⟩ :: (stX ok R).map rowF) rfl (fun k hk => by
    rw [show 0 + 1 + k = k + 1 by omega, List.getElem?_cons_succ, List.getElem?_map, ix_get? _ _ hk]; rfl)
  exact this
theorem stX_tot (r : Int) (R : List (List Nat) × Int) (ok : Bool) (h : ok = true → stOk r R = true) : totL (stX ok R) ≤ 1048576 := by
  unfold stX
  cases ok
  · exact Nat.zero_le _
  · have h1 := h rfl
    unfold stOk at h1
    obtain ⟨h2, h3, h4, _⟩ := levB_len h1
    rw [if_pos rfl, totL_w]
    rw [List.length_map] at h2
    have := totW_le (ls := R.1) fun ws hw => by
      obtain ⟨k, hk, e⟩ := List.getElem_of_mem hw
      have h5 := h4 k (by rw [List.length_map]; exact hk)
      rw [ix_mapQ _ hk, List.length_map, ix_eq _ _ hk, e] at h5
      exact h5
    omega
theorem PtL.mkO {X : Hp} {lo hi A id ver : Nat} {Q : List (Nat × List LV)} {cs : List LV} (h : PtL X id ver cs) (hA : Lv X lo hi A Q) (k : Nat) (hn : ¬ (lo ≤ id ∧ id < hi)) : PtL (mkH X k Q Q.length) id ver cs := by
  obtain ⟨ro, el, sz, e⟩ := h
  exact ⟨ro, el, sz, by rw [mkH_out hA k hn _ (Nat.le_refl _)]; exact e⟩
theorem Lv.mkO {X : Hp} {lo hi A lo' hi' A' : Nat} {Q Q' : List (Nat × List LV)} (h : Lv X lo' hi' A' Q') (hA : Lv X lo hi A Q) (k : Nat) (hn : hi' ≤ lo ∨ hi ≤ lo') : Lv (mkH X k Q Q.length) lo' hi' A' Q' :=
  h.frame fun i h1 h2 => mkH_out hA k (by omega) _ (Nat.le_refl _)
theorem Lv.mkd {X : Hp} {lo hi A : Nat} {Q : List (Nat × List LV)} (h : Lv X lo hi A Q) (k : Nat) : Lv (mkH X k Q Q.length) lo hi A (mkQ k Q) := by
  have := mkH_Lv h k _ (Nat.le_refl _); rwa [hmQ_all] at this
theorem Lv.hi {X : Hp} {lo hi A : Nat} {Q : List (Nat × List LV)} (h : Lv X lo hi A Q) : lo < hi := by have := h.inA; omega
theorem pre_mk {H X : Hp} {lo hi A : Nat} {Q : List (Nat × List LV)} (hp : ∃ K, X = H ++ K) (hA : Lv X lo hi A Q) (k : Nat) (hl : H.length ≤ lo) : ∃ K, mkH X k Q Q.length = H ++ K := by
  obtain ⟨K, e⟩ := hp
  refine pre_of (by rw [mkH_len, e, List.length_append]; omega) fun i hi => ?_
  rw [mkH_out hA k (by omega) _ (Nat.le_refl _), e, List.getElem?_append_left hi]
end Go.Proofs.Ytonlgkecphijoaa
