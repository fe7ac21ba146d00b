/- The laws' arguments in the abstract machine: rows of numbers, structs. -/
import Derived.Test.YtfofkebkcjkjeaaAr
import Derived.Test.YtfofkebkcjkjeaaFo
import Derived.Laws.Cover2
namespace Go.Proofs.Ytfofkebkcjkjeaa
open Go.ChangeShapes Go.WideShapes Go.ChangeAt Go.RowKit
set_option linter.unusedSimpArgs false
set_option linter.unusedVariables false
set_option maxRecDepth 100000

theorem bounds_i64' {c : Int} (h : (Lit.int .i64 c).wf = true) : -9223372036854775808 ≤ c ∧ c ≤ 9223372036854775807 := bnd_i64 h
section
variable {H0 : Type} {enc : TypeId × Value → H0} {W : World} {μ : Nat → Pl} {H : Hp} {v : Value} {fuel : Nat} {x : DataW H0 × List MemPlace}
theorem fok_can (b : Nat) (h : (Lit.float .f32 b).wf = true) : FOk (can .f32 b) := by
  intro c hc
  obtain ⟨rfl, h2⟩ := can_some hc
  exact ⟨h2, by simpa [Lit.wf] using h⟩
theorem row_f32 (h : DataW.trod enc Try.prog W 0 (fun _ => true) true fuel 39 [v] = some x) : ∃ o : Option Nat, FOk o ∧ ∀ μ H, BR μ H (.flt .f32 o) v := by
  obtain ⟨b, e, _, w⟩ := DataW.trod_float Try.underlying39 h
  simp at e; subst e
  exact ⟨can .f32 b, fok_can b w, fun _ _ => ⟨b, rfl, rfl⟩⟩
theorem arg_f32 {r : Reach} {base : Nat} {d : DataW H0} {p : List MemPlace} (hv : Value.okWide Try.prog W r base 39 v) (h : DataW.Trod enc Try.prog W 0 (fun _ => true) true 39 v d p) : ∃ o : Option Nat, FOk o ∧ ∀ μ H, BR μ H (.flt .f32 o) v := by
  obtain ⟨b, rfl⟩ := okWide_float Try.underlying39 hv
  obtain ⟨fuel, hf⟩ := h
  exact row_f32 (by simpa [Value.cells] using hf)
theorem row_i64s (hR : Rep W μ H W) (h : DataW.trod enc Try.prog W 0 (fun _ => true) true fuel 22 [v] = some x) :
    ∃ (xs : List Int) (lv : LV) (H' : Hp) (μ' : Nat → Pl), xs.length ≤ 9223372036854775807 ∧ (∀ y ∈ xs, -9223372036854775808 ≤ y ∧ y ≤ 9223372036854775807) ∧ Rep W μ' (H ++ H') W ∧ Ext μ H μ' (H ++ H') ∧ BR μ' (H ++ H') lv v ∧ RdL (H ++ H') lv (xs.map (LV.int .i64)) :=
  arg_row hR (LV.int .i64) _ Try.underlying22 (by kernel_rfl) (fun fuel cs x hx => by obtain ⟨b, hb, _, hw⟩ := DataW.trod_int Try.underlying2 hx; exact ⟨b, _, hb, bnd_i64 hw, rfl, fun _ _ => rfl⟩) h
theorem row_f32s (hR : Rep W μ H W) (h : DataW.trod enc Try.prog W 0 (fun _ => true) true fuel 38 [v] = some x) :
    ∃ (xs : List (Option Nat)) (lv : LV) (H' : Hp) (μ' : Nat → Pl), xs.length ≤ 9223372036854775807 ∧ (∀ y ∈ xs, FOk y) ∧ Rep W μ' (H ++ H') W ∧ Ext μ H μ' (H ++ H') ∧ BR μ' (H ++ H') lv v ∧ RdL (H ++ H') lv (xs.map (LV.flt .f32)) :=
  arg_row hR (LV.flt .f32) _ Try.underlying38 (by kernel_rfl) (fun fuel cs x hx => by obtain ⟨b, hb, _, hw⟩ := DataW.trod_float Try.underlying39 hx; exact ⟨can .f32 b, _, hb, fok_can b hw, rfl, fun _ _ => ⟨b, rfl, rfl⟩⟩) h
theorem arg_f32s {r : Reach} {base : Nat} {d : DataW H0} {p : List MemPlace} (hR : Rep W μ H W) (hv : Value.okWide Try.prog W r base 38 v) (h : DataW.Trod enc Try.prog W 0 (fun _ => true) true 38 v d p) :
    ∃ (xs : List (Option Nat)) (lv : LV) (H' : Hp) (μ' : Nat → Pl), xs.length ≤ 9223372036854775807 ∧ (∀ y ∈ xs, FOk y) ∧ Rep W μ' (H ++ H') W ∧ Ext μ H μ' (H ++ H') ∧ BR μ' (H ++ H') lv v ∧ RdL (H ++ H') lv (xs.map (LV.flt .f32)) := by
  obtain ⟨fuel, x, hx⟩ := trod_sl Try.underlying38 hv h
  exact row_f32s hR hx
theorem array5 {α : Type} {cs : Array α} (h : cs.size = 5) : ∃ c0 c1 c2 c3 c4, cs = #[c0, c1, c2, c3, c4] := by
  obtain ⟨l⟩ := cs
  match l, h with
  | [c0, c1, c2, c3, c4], _ => exact ⟨c0, c1, c2, c3, c4, rfl⟩
theorem open_agg5 {P : Program} {w : World} {base : Nat} {spare : Nat → Bool} {held : Bool} {r : Reach} {b0 : Nat} {t : TypeId} {f0 f1 f2 f3 f4 : Field} {v : Value} {d : DataW H0} {p : List MemPlace} (hs : P.underlying t = some (.struct #[f0, f1, f2, f3, f4])) (hone : Deep.oneCellFields P #[f0, f1, f2, f3, f4] = true) (hC : P.cellsOf t = 5)
    (hv : Value.okWide P w r b0 t v) (h : DataW.Trod enc P w base spare held t v d p) :
    ∃ (v0 v1 v2 v3 v4 : Value) (y0 y1 y2 y3 y4 : DataW H0 × List MemPlace) (n : Nat), v = .agg #[v0, v1, v2, v3, v4] ∧ d = .agg [y0.1, y1.1, y2.1, y3.1, y4.1] ∧ p = y0.2 ++ (y1.2 ++ (y2.2 ++ (y3.2 ++ y4.2))) ∧
      DataW.trod enc P w base spare held n f0.type [v0] = some y0 ∧ DataW.trod enc P w base spare held n f1.type [v1] = some y1 ∧ DataW.trod enc P w base spare held n f2.type [v2] = some y2 ∧ DataW.trod enc P w base spare held n f3.type [v3] = some y3 ∧ DataW.trod enc P w base spare held n f4.type [v4] = some y4 := by
  obtain ⟨cs, rfl, hsz⟩ := okWide_struct hs hv
  obtain ⟨c0, c1, c2, c3, c4, rfl⟩ := array5 (hsz.trans hC)
  obtain ⟨fuel, hf⟩ := h
  obtain ⟨xs, n, _, hx, hl, hlen, hf⟩ := DataW.trod_struct hs hf
  match xs, hlen with
  | [y0, y1, y2, y3, y4], _ =>
    obtain ⟨o0, k0⟩ := Deep.hone_of hone 0 f0 rfl
    obtain ⟨o1, k1⟩ := Deep.hone_of hone 1 f1 rfl
    obtain ⟨o2, k2⟩ := Deep.hone_of hone 2 f2 rfl
    obtain ⟨o3, k3⟩ := Deep.hone_of hone 3 f3 rfl
    obtain ⟨o4, k4⟩ := Deep.hone_of hone 4 f4 rfl
    simp only [Prod.mk.injEq] at hx
    exact ⟨c0, c1, c2, c3, c4, y0, y1, y2, y3, y4, n, rfl, by simpa using hx.1, by simpa using hx.2, by simpa [Value.cells, o0, k0] using hf 0 f0 rfl, by simpa [Value.cells, o1, k1] using hf 1 f1 rfl, by simpa [Value.cells, o2, k2] using hf 2 f2 rfl, by simpa [Value.cells, o3, k3] using hf 3 f3 rfl, by simpa [Value.cells, o4, k4] using hf 4 f4 rfl⟩
end
set_option maxRecDepth 100000 in
theorem arg_Summary {H0 : Type} {enc : TypeId × Value → H0} {W : World} {r : Reach} {base : Nat} {v : Value} {d : DataW H0} {p : List MemPlace} {μ : Nat → Pl} {H : Hp} (hR : Rep W μ H W)
    (hv : Value.okWide Try.prog W r base 66 v) (h : DataW.Trod enc Try.prog W 0 (fun _ => true) true 66 v d p) :
    ∃ (v0 : Int) (v1 : Int) (x2 : List (Option Nat)) (v2 : LV) (x3 : List Int) (v3 : LV) (x4 : List Int) (v4 : LV) (H' : Hp) (μ' : Nat → Pl), (-9223372036854775808 ≤ v0 ∧ v0 ≤ 9223372036854775807) ∧ (-9223372036854775808 ≤ v1 ∧ v1 ≤ 9223372036854775807) ∧ x2.length ≤ 9223372036854775807 ∧ (∀ y ∈ x2, FOk y) ∧ x3.length ≤ 9223372036854775807 ∧ (∀ y ∈ x3, -9223372036854775808 ≤ y ∧ y ≤ 9223372036854775807) ∧ x4.length ≤ 9223372036854775807 ∧ (∀ y ∈ x4, -9223372036854775808 ≤ y ∧ y ≤ 9223372036854775807) ∧ Rep W μ' (H ++ H') W ∧ Ext μ H μ' (H ++ H') ∧ LR μ' (H ++ H') (.agg [.int .i64 v0, .int .i64 v1, v2, v3, v4]) v ∧ RdL (H ++ H') v2 (x2.map (LV.flt .f32)) ∧ RdL (H ++ H') v3 (x3.map (LV.int .i64)) ∧ RdL (H ++ H') v4 (x4.map (LV.int .i64)) := by
  obtain ⟨c0, c1, c2, c3, c4, y0, y1, y2, y3, y4, m, rfl, rfl, rfl, hy0, hy1, hy2, hy3, hy4⟩ := open_agg5 Try.underlying66 (by kernel_rfl) (by kernel_rfl) hv h
  obtain ⟨v0, e0, _, w0⟩ := DataW.trod_int Try.underlying2 hy0
  simp at e0; subst e0
  obtain ⟨v1, e1, _, w1⟩ := DataW.trod_int Try.underlying2 hy1
  simp at e1; subst e1
  obtain ⟨x2, v2, H2, μ2, l2, g2, hR2, hx2, b2, r2⟩ := row_f32s hR hy2
  obtain ⟨x3, v3, H3, μ3, l3, g3, hR3, hx3, b3, r3⟩ := row_i64s hR2 hy3
  obtain ⟨x4, v4, H4, μ4, l4, g4, hR4, hx4, b4, r4⟩ := row_i64s hR3 hy4
  replace b2 := BR.ext hx3 b2; replace r2 := r2.app H3
  replace b2 := BR.ext hx4 b2; replace r2 := r2.app H4
  replace b3 := BR.ext hx4 b3; replace r3 := r3.app H4
  simp only [List.append_assoc] at *
  refine ⟨v0, v1, x2, v2, x3, v3, x4, v4, _, _, bounds_i64' w0, bounds_i64' w1, l2, g2, l3, g3, l4, g4, hR4, ((hx2).trans hx3).trans hx4, ⟨_, rfl, rfl, rfl, b2, b3, b4, trivial⟩, r2, r3, r4⟩
set_option maxRecDepth 100000 in
theorem arg_Clusters {H0 : Type} {enc : TypeId × Value → H0} {W : World} {r : Reach} {base : Nat} {v : Value} {d : DataW H0} {p : List MemPlace} {μ : Nat → Pl} {H : Hp} (hR : Rep W μ H W)
    (hv : Value.okWide Try.prog W r base 56 v) (h : DataW.Trod enc Try.prog W 0 (fun _ => true) true 56 v d p) :
    ∃ (v0 : Int) (x1 : List (Option Nat)) (v1 : LV) (x2 : List Int) (v2 : LV) (H' : Hp) (μ' : Nat → Pl), (-9223372036854775808 ≤ v0 ∧ v0 ≤ 9223372036854775807) ∧ x1.length ≤ 9223372036854775807 ∧ (∀ y ∈ x1, FOk y) ∧ x2.length ≤ 9223372036854775807 ∧ (∀ y ∈ x2, -9223372036854775808 ≤ y ∧ y ≤ 9223372036854775807) ∧ Rep W μ' (H ++ H') W ∧ Ext μ H μ' (H ++ H') ∧ LR μ' (H ++ H') (.agg [.int .i64 v0, v1, v2]) v ∧ RdL (H ++ H') v1 (x1.map (LV.flt .f32)) ∧ RdL (H ++ H') v2 (x2.map (LV.int .i64)) := by
  obtain ⟨c0, c1, c2, y0, y1, y2, m, rfl, rfl, rfl, hy0, hy1, hy2⟩ := Joins.open_agg3 Try.underlying56 (by kernel_rfl) (by kernel_rfl) hv h
  obtain ⟨v0, e0, _, w0⟩ := DataW.trod_int Try.underlying2 hy0
  simp at e0; subst e0
  obtain ⟨x1, v1, H1, μ1, l1, g1, hR1, hx1, b1, r1⟩ := row_f32s hR hy1
  obtain ⟨x2, v2, H2, μ2, l2, g2, hR2, hx2, b2, r2⟩ := row_i64s hR1 hy2
  replace b1 := BR.ext hx2 b1; replace r1 := r1.app H2
  simp only [List.append_assoc] at *
  refine ⟨v0, x1, v1, x2, v2, _, _, bounds_i64' w0, l1, g1, l2, g2, hR2, (hx1).trans hx2, ⟨_, rfl, rfl, b1, b2, trivial⟩, r1, r2⟩
set_option maxRecDepth 100000 in
theorem arg_Tops {H0 : Type} {enc : TypeId × Value → H0} {W : World} {r : Reach} {base : Nat} {v : Value} {d : DataW H0} {p : List MemPlace} {μ : Nat → Pl} {H : Hp} (hR : Rep W μ H W)
    (hv : Value.okWide Try.prog W r base 33 v) (h : DataW.Trod enc Try.prog W 0 (fun _ => true) true 33 v d p) :
    ∃ (v0 : Int) (x1 : List Int) (v1 : LV) (x2 : List Int) (v2 : LV) (x3 : List Int) (v3 : LV) (H' : Hp) (μ' : Nat → Pl), (-9223372036854775808 ≤ v0 ∧ v0 ≤ 9223372036854775807) ∧ x1.length ≤ 9223372036854775807 ∧ (∀ y ∈ x1, -9223372036854775808 ≤ y ∧ y ≤ 9223372036854775807) ∧ x2.length ≤ 9223372036854775807 ∧ (∀ y ∈ x2, -9223372036854775808 ≤ y ∧ y ≤ 9223372036854775807) ∧ x3.length ≤ 9223372036854775807 ∧ (∀ y ∈ x3, -9223372036854775808 ≤ y ∧ y ≤ 9223372036854775807) ∧ Rep W μ' (H ++ H') W ∧ Ext μ H μ' (H ++ H') ∧ LR μ' (H ++ H') (.agg [.int .i64 v0, v1, v2, v3]) v ∧ RdL (H ++ H') v1 (x1.map (LV.int .i64)) ∧ RdL (H ++ H') v2 (x2.map (LV.int .i64)) ∧ RdL (H ++ H') v3 (x3.map (LV.int .i64)) := by
  obtain ⟨c0, c1, c2, c3, y0, y1, y2, y3, m, rfl, rfl, rfl, hy0, hy1, hy2, hy3⟩ := Joins.open_agg4 Try.underlying33 (by kernel_rfl) (by kernel_rfl) hv h
  obtain ⟨v0, e0, _, w0⟩ := DataW.trod_int Try.underlying2 hy0
  simp at e0; subst e0
  obtain ⟨x1, v1, H1, μ1, l1, g1, hR1, hx1, b1, r1⟩ := row_i64s hR hy1
  obtain ⟨x2, v2, H2, μ2, l2, g2, hR2, hx2, b2, r2⟩ := row_i64s hR1 hy2
  obtain ⟨x3, v3, H3, μ3, l3, g3, hR3, hx3, b3, r3⟩ := row_i64s hR2 hy3
  replace b1 := BR.ext hx2 b1; replace r1 := r1.app H2
  replace b1 := BR.ext hx3 b1; replace r1 := r1.app H3
  replace b2 := BR.ext hx3 b2; replace r2 := r2.app H3
  simp only [List.append_assoc] at *
  refine ⟨v0, x1, v1, x2, v2, x3, v3, _, _, bounds_i64' w0, l1, g1, l2, g2, l3, g3, hR3, ((hx1).trans hx2).trans hx3, ⟨_, rfl, rfl, b1, b2, b3, trivial⟩, r1, r2, r3⟩
end Go.Proofs.Ytfofkebkcjkjeaa
