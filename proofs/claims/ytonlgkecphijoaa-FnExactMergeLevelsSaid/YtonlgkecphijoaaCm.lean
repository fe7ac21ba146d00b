/- The laws' arguments in the abstract machine: levels. -/
import Derived.Test.YtonlgkecphijoaaZl
import Derived.Test.YtonlgkecphijoaaCl
namespace Go.Proofs.Ytonlgkecphijoaa
open Go.ChangeShapes Go.WideShapes Go.ChangeAt Go.RowKit
set_option linter.unusedSimpArgs false
set_option linter.unusedVariables false
set_option maxRecDepth 100000

section
variable {H0 : Type} {enc : TypeId × Value → H0} {W : World} {μ : Nat → Pl} {H : Hp} {v : Value} {fuel : Nat} {x : DataW H0 × List MemPlace}
theorem slice_one {P : Program} {base : Nat} {spare : Nat → Bool} {held : Bool} {t e : TypeId} {cs : List Value} (ht : P.underlying t = some (.slice e)) (h : DataW.trod enc P W base spare held fuel t cs = some x) : ∃ w, cs = [w] ∧ w.oneCell' = true := by
  rcases DataW.trod_slice ht h with ⟨hv, _⟩ | ⟨a, len, cap, elems, rest, n, _, hv, _⟩
  · exact ⟨_, hv, rfl⟩
  · exact ⟨_, hv, rfl⟩
theorem rows_upto (hR : Rep W μ H W) {len : Nat} {a : Addr} (each : ∀ i, i < len → ∃ w fuel x, W.cell? (a.add i) = some w ∧ w.oneCell' = true ∧ DataW.trod enc Try.prog W 0 (fun _ => true) true fuel 41 [w] = some x) :
    ∀ m, m ≤ len → ∃ (L : List LV) (xss : List (List (Option Nat))) (H' : Hp) (μ' : Nat → Pl), L.length = m ∧ xss.length = m ∧ goodF xss ∧ Rep W μ' (H ++ H') W ∧ Ext μ H μ' (H ++ H') ∧ RdLL (H ++ H') L xss ∧
      ∀ (j : Nat) (l : LV), L[j]? = some l → ∃ v, W.cell? (a.add j) = some v ∧ v.oneCell' = true ∧ BR μ' (H ++ H') l v
  | 0, _ => ⟨[], [], [], μ, rfl, rfl, (by intro xs hx; cases hx), by rw [List.append_nil]; exact hR, by rw [List.append_nil]; exact Ext.refl _ _, trivial, fun j l h => by simp at h⟩
  | m + 1, hm => by
    obtain ⟨L, xss, H1, μ1, l1, l2, g1, r1, x1, d1, c1⟩ := rows_upto hR each m (by omega)
    obtain ⟨w, fuel, x, hw, ho, ht⟩ := each m (by omega)
    obtain ⟨xs, lv, H2, μ2, n2, g2, r2, x2, b2, d2⟩ := row_f32s r1 ht
    refine ⟨L ++ [lv], xss ++ [xs], H1 ++ H2, μ2, by simp [l1], by simp [l2], ?_, by rw [← List.append_assoc]; exact r2, by rw [← List.append_assoc]; exact x1.trans x2, ?_, ?_⟩
    · intro ys hy
      rcases List.mem_append.1 hy with hy | hy
      · exact g1 ys hy
      · rw [List.mem_singleton.1 hy]; exact ⟨n2, g2⟩
    · rw [← List.append_assoc]
      exact All2.app (d1.app H2) ⟨d2, trivial⟩
    · rw [← List.append_assoc]
      intro j l hj
      rcases Nat.lt_or_ge j L.length with h | h
      · rw [List.getElem?_append_left h] at hj
        obtain ⟨v, e1, e2, e3⟩ := c1 j l hj
        exact ⟨v, e1, e2, BR.ext x2 e3⟩
      · rw [List.getElem?_append_right h] at hj
        have hj0 : j - L.length = 0 := by
          rcases Nat.eq_zero_or_pos (j - L.length) with h0 | h0
          · exact h0
          · rw [List.getElem?_eq_none (by simp only [List.length_cons, List.length_nil]; omega)] at hj; cases hj
        rw [hj0] at hj
        simp at hj
        subst hj
        rw [show j = m by omega]
        exact ⟨w, hw, ho, b2⟩
theorem row_f32ss (hR : Rep W μ H W) (h : DataW.trod enc Try.prog W 0 (fun _ => true) true fuel 22 [v] = some x) :
    ∃ (xss : List (List (Option Nat))) (L : List LV) (lv : LV) (H' : Hp) (μ' : Nat → Pl), xss.length ≤ 9223372036854775807 ∧ goodF xss ∧ Rep W μ' (H ++ H') W ∧ Ext μ H μ' (H ++ H') ∧ BR μ' (H ++ H') lv v ∧ RdL (H ++ H') lv L ∧ RdLL (H ++ H') L xss := by
  have hc : Try.prog.cellsOf 41 = 1 := by kernel_rfl
  rcases DataW.trod_slice Try.underlying22 h with ⟨hv, _⟩ | ⟨a, len, cap, elems, rest, n, _, hv, rfl, hb, hl, hm, hlen, hel, hsp, hns⟩
  · simp only [List.cons.injEq, and_true] at hv
    subst hv
    obtain ⟨lv, H', μ', h1, h2, h3, h4⟩ := arg_cells hR (n := 0) (c := 0) (el := 0) (a := none) (cs := []) rfl (Nat.le_refl _) (fun h => absurd h (Nat.lt_irrefl _))
    exact ⟨[], [], lv, H', μ', by simp, (by intro xs hx; cases hx), h1, h2, h3, h4, trivial⟩
  simp only [List.cons.injEq, and_true] at hv
  subst hv
  have each : ∀ i, i < len → ∃ w fuel x, W.cell? (a.add i) = some w ∧ w.oneCell' = true ∧ DataW.trod enc Try.prog W 0 (fun _ => true) true fuel 41 [w] = some x := by
    intro i hi
    have h1 := hel i hi
    rw [List.getElem?_eq_getElem (by omega), hc, Nat.mul_one, Option.bind_eq_some_iff] at h1
    obtain ⟨cs', hcs, hy⟩ := h1
    obtain ⟨w, rfl, ho⟩ := slice_one Try.underlying41 hy
    exact ⟨w, _, _, cell_of_cells?_one hcs, ho, hy⟩
  obtain ⟨L, xss, H1, μ1, l1, l2, g1, r1, x1, d1, c1⟩ := rows_upto hR each len (Nat.le_refl _)
  have hcell : 0 < len → ∃ b off, some a = some (⟨b, off, none⟩ : Addr) ∧ b < W.heap.size ∧ ∀ (j : Nat) (x : LV), L[j]? = some x → ∃ v, W.cell? ⟨b, off + j, none⟩ = some v ∧ v.oneCell' = true ∧ BR μ1 (H ++ H1) x v := by
    intro h0
    obtain ⟨w0, _, _, hw0, _⟩ := each 0 h0
    have hs : a.spot = none := by
      have := hw0
      simp only [Addr.add, if_true] at this
      unfold World.cell? at this
      split at this
      · split at this
        · cases this
        · rename_i hsp; simpa using hsp
      · cases this
    obtain ⟨b, off, sp⟩ := a
    simp only at hs
    subst hs
    have hadd : ∀ i, (⟨b, off, none⟩ : Addr).add i = ⟨b, off + i, none⟩ := fun i => by
      unfold Addr.add
      split
      · subst_vars; rfl
      · rfl
    refine ⟨b, off, rfl, World.block_lt_of_cell? W _ hw0, fun j x hx => ?_⟩
    obtain ⟨v, k1, k2, k3⟩ := c1 j x hx
    rw [hadd] at k1
    exact ⟨v, k1, k2, k3⟩
  obtain ⟨lv, H', μ', h1, h2, h3, h4⟩ := arg_cells r1 (n := len) (c := cap) (el := 41) (a := some a) (cs := L) l1 hl hcell
  rw [List.append_assoc] at h1 h2 h3 h4
  refine ⟨xss, L, lv, H1 ++ H', μ', by rw [l2]; unfold maxLen at hm; omega, g1, h1, x1.trans h2, h3, h4, ?_⟩
  have := d1.app H'
  rwa [List.append_assoc] at this
theorem arg_Levels {r : Reach} {base : Nat} {d : DataW H0} {p : List MemPlace} (hR : Rep W μ H W)
    (hv : Value.okWide Try.prog W r base 24 v) (h : DataW.Trod enc Try.prog W 0 (fun _ => true) true 24 v d p) :
    ∃ (n s : Int) (xss : List (List (Option Nat))) (L : List LV) (lv : LV) (H' : Hp) (μ' : Nat → Pl), (-9223372036854775808 ≤ n ∧ n ≤ 9223372036854775807) ∧ (-9223372036854775808 ≤ s ∧ s ≤ 9223372036854775807) ∧ xss.length ≤ 9223372036854775807 ∧ goodF xss ∧
      Rep W μ' (H ++ H') W ∧ Ext μ H μ' (H ++ H') ∧ LR μ' (H ++ H') (.agg [.int .i64 n, .int .i64 s, lv]) v ∧ RdL (H ++ H') lv L ∧ RdLL (H ++ H') L xss := by
  obtain ⟨c0, c1, c2, y0, y1, y2, m, rfl, rfl, rfl, hy0, hy1, hy2⟩ := Joins.open_agg3 Try.underlying24 (by kernel_rfl) (by kernel_rfl) hv h
  obtain ⟨n, e0, _, w0⟩ := DataW.trod_int Try.underlying2 hy0
  simp at e0; subst e0
  obtain ⟨s, e1, _, w1⟩ := DataW.trod_int Try.underlying2 hy1
  simp at e1; subst e1
  obtain ⟨xss, L, lv, H2, μ2, l2, g2, hR2, hx2, b2, r2, d2⟩ := row_f32ss hR hy2
  exact ⟨n, s, xss, L, lv, H2, μ2, bounds_i64' w0, bounds_i64' w1, l2, g2, hR2, hx2, ⟨_, rfl, rfl, rfl, b2, trivial⟩, r2, d2⟩
end
end Go.Proofs.Ytonlgkecphijoaa
