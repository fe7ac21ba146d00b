/- Texts Lw, Ar, Cr of the abstract machine and its laws, in one. -/
import Derived.Test.YtpbafacehmjdmaaZm
import Derived.ProofKit
import Derived.OpenShut
import Derived.Lib.SmallJoins
import Derived.SizedLaws
import Derived.Test.YtpbafacehmjdmaaZn
import Derived.Test.YtpbafacehmjdmaaZp
import Derived.Laws.Cover2
namespace Go.Proofs.Ytpbafacehmjdmaa
open Go.ChangeShapes Go.WideShapes Go.ChangeAt Go.RowKit
set_option linter.unusedSimpArgs false
set_option linter.unusedVariables false

theorem own : ownKnob Try.prog.godebug = none := by kernel_rfl
theorem laidOut : laidOutB Try.prog = true := by kernel_rfl

theorem args_kept {H : Type} {enc : TypeId × Value → H} {P : Program} (hl : laidOutB P = true) {W W' : World} (hb : Below W.heap.size W W') :
    ∀ (ts : List TypeId) (vs : List Value) (ds : List (DataW H)) (ps : List MemPlace), (∀ t ∈ ts, P.readableRec t = true ∧ t < P.types.size) → (∀ x ∈ ps, x.block < W.heap.size) →
      DataW.TrodAll enc P W 0 (fun _ => true) true ts vs ds ps → DataW.TrodAll enc P W' 0 (fun b => decide (b < W.heap.size)) true ts vs ds ps
  | [], [], [], ps, _, _, h => h
  | t :: ts, v :: vs, d :: ds, ps, hr, hlt, h => by
    obtain ⟨p, q, h1, h2, rfl⟩ := h
    exact ⟨p, q, Below.trod hl (hr t (by simp)).1 (hr t (by simp)).2 h1 hb (fun x hx => hlt x (by simp [hx])), args_kept hl hb ts vs ds q (fun u hu => hr u (by simp [hu])) (fun x hx => hlt x (by simp [hx])) h2, rfl⟩
  | [], [], _ :: _, _, _, _, h => h.elim
  | [], _ :: _, _, _, _, _, h => h.elim
  | _ :: _, [], _, _, _, _, h => h.elim
  | _ :: _, _ :: _, [], _, _, _, h => h.elim

theorem law_post {H : Type} {enc : TypeId × Value → H} {P : Program} {f : Func} {s : ChangeSpec} {W W' : World} {args : Array Value} {ds gs : List (DataW H)} {before : List MemPlace}
    (hl : laidOutB P = true) (hvars : s.vars = []) (hr : ∀ t ∈ f.params.toList, P.readableRec t = true ∧ t < P.types.size)
    {t : TypeId} (hres : f.resultTypes = #[t]) (ht : P.underlying t = some .bool)
    (hW : DataW.Whole enc P f.params.toList s.vars false W args.toList ds gs before) (hb : Below W.heap.size W W')
    (hspec : s.fn H (ds ++ gs) = { results := [.lit (.bool true)], args := ds }) :
    s.post enc P f false true false false W args (.bool true) W' := by
  have hW' := hW
  obtain ⟨p, q, hA, hV, rfl, hz, hn⟩ := hW
  have hV' := hV
  rw [hvars] at hV
  obtain ⟨rfl, rfl⟩ := trodVars_none hV
  refine ⟨ds, [], _, [], p, [], hW', ?_, ?_, ?_, hb.frame _, fun h => by cases h⟩
  · rw [hspec, hres]
    exact trodAll_cons_mk (shut_bool ht _) trodAll_mk0
  · rw [hspec]
    exact args_kept hl hb _ _ _ _ hr (fun x hx => by simpa using hW'.lt x (by simpa using hx)) hA
  · rw [hspec, hvars]
    rfl

/-- A float's cell. -/
theorem DataW.trod_float {H : Type} {enc : TypeId × Value → H} {P : Program} {w : World} {base : Nat} {spare : Nat → Bool} {held : Bool} {fuel : Nat} {t : TypeId} {cs : List Value} {x : DataW H × List MemPlace} {k : FloatKind}
    (ht : P.underlying t = some (.float k)) (h : DataW.trod enc P w base spare held fuel t cs = some x) : ∃ b, cs = [.float k b] ∧ x = (.lit (.float k b), []) ∧ (Lit.float k b).wf = true := by
  cases fuel with
  | zero => simp [DataW.trod] at h
  | succ n =>
    simp only [DataW.trod, ht] at h
    split at h <;> simp_all
end Go.Proofs.Ytpbafacehmjdmaa

namespace Go.Proofs.Ytpbafacehmjdmaa
open Go.ChangeShapes Go.WideShapes Go.ChangeAt Go.RowKit
set_option linter.unusedSimpArgs false
set_option linter.unusedVariables false

theorem Rep.start (W : World) : Rep W (fun _ => ⟨0, 0, 0⟩) [] W :=
  ⟨Below.refl _ _, fun i o h => (by simp at h), fun i o h => (by simp at h), fun i o h => (by simp at h), fun i j o p h => (by simp at h)⟩

theorem Rep.addRo {w0 w : World} {μ : Nat → Pl} {H : Hp} (h : Rep w0 μ H w) (b off el sz : Nat) (hb : b < w0.heap.size) (cs : List LV)
    (hc : ∀ (j : Nat) (c : LV), cs[j]? = some c → ∃ v, w.cell? ⟨b, off + j, none⟩ = some v ∧ v.oneCell' = true ∧ BR μ H c v) :
    Rep w0 (fun i => if i = H.length then ⟨b, off, 0⟩ else μ i) (H ++ [⟨0, true, el, sz, cs⟩]) w ∧ Ext μ H (fun i => if i = H.length then ⟨b, off, 0⟩ else μ i) (H ++ [⟨0, true, el, sz, cs⟩]) := by
  have hold : ∀ i q, H[i]? = some q → i < H.length := fun i q hq => by
    rcases Nat.lt_or_ge i H.length with h | h
    · exact h
    · simp [List.getElem?_eq_none h] at hq
  have hcase : ∀ i q, (H ++ [⟨0, true, el, sz, cs⟩])[i]? = some q → (i < H.length ∧ H[i]? = some q) ∨ (i = H.length ∧ q = ⟨0, true, el, sz, cs⟩) := by
    intro i q hq
    rw [List.getElem?_append] at hq
    split at hq
    · exact Or.inl ⟨by assumption, hq⟩
    · rename_i hn
      have : i - H.length = 0 := by
        rcases Nat.lt_or_ge (i - H.length) 1 with h | h
        · omega
        · simp [List.getElem?_eq_none (l := [(⟨0, true, el, sz, cs⟩ : AO)]) (by simpa using h)] at hq
      rw [this] at hq
      simp at hq
      exact Or.inr ⟨by omega, hq.symm⟩
  have hext : Ext μ H (fun i => if i = H.length then ⟨b, off, 0⟩ else μ i) (H ++ [⟨0, true, el, sz, cs⟩]) := by
    intro i q hq
    have hl := hold i q hq
    exact ⟨q, by rw [List.getElem?_append_left hl]; exact hq, Nat.le_refl _, rfl, rfl, rfl, fun _ => by simp [Nat.ne_of_lt hl]⟩
  refine ⟨⟨h.bel, ?_, ?_, ?_, ?_⟩, hext⟩
  · intro i q hq j c hcc
    rcases hcase i q hq with ⟨hl, hq'⟩ | ⟨rfl, rfl⟩
    · obtain ⟨v, k1, k2, k3⟩ := h.cell i q hq' j c hcc
      refine ⟨v, ?_, k2, BR.ext hext k3⟩
      simp only [Nat.ne_of_lt hl, if_false]; exact k1
    · obtain ⟨v, k1, k2, k3⟩ := hc j c hcc
      refine ⟨v, ?_, k2, BR.ext hext k3⟩
      simp only [if_true, ad]; exact k1
  · intro i q hq hro
    rcases hcase i q hq with ⟨hl, hq'⟩ | ⟨rfl, rfl⟩
    · simp only [Nat.ne_of_lt hl, if_false]; exact h.ro i q hq' hro
    · simp only [if_true]; exact Or.inr hb
  · intro i q hq hro
    rcases hcase i q hq with ⟨hl, hq'⟩ | ⟨rfl, rfl⟩
    · simp only [Nat.ne_of_lt hl, if_false]; exact h.rw i q hq' hro
    · cases hro
  · intro i j q s hq hs hqr hsr hzi hzj he
    rcases hcase i q hq with ⟨hl, hq'⟩ | ⟨rfl, rfl⟩
    · rcases hcase j s hs with ⟨hl2, hs'⟩ | ⟨rfl, rfl⟩
      · simp only [Nat.ne_of_lt hl, Nat.ne_of_lt hl2, if_false] at he hzi hzj
        exact h.dj i j q s hq' hs' hqr hsr hzi hzj he
      · cases hsr
    · cases hqr

/-- A slice of the caller's, as the abstract machine has it. -/
theorem arg_cells {W : World} {μ : Nat → Pl} {H : Hp} (hR : Rep W μ H W) {n c el : Nat} {a : Option Addr} {cs : List LV} (hn : cs.length = n) (hcap : n ≤ c)
    (hc : 0 < n → ∃ b off, a = some ⟨b, off, none⟩ ∧ b < W.heap.size ∧ ∀ (j : Nat) (x : LV), cs[j]? = some x → ∃ v, W.cell? ⟨b, off + j, none⟩ = some v ∧ v.oneCell' = true ∧ BR μ H x v) :
    ∃ lv H' μ', Rep W μ' (H ++ H') W ∧ Ext μ H μ' (H ++ H') ∧ BR μ' (H ++ H') lv (.slice a n c) ∧ RdL (H ++ H') lv cs := by
  rcases Nat.eq_zero_or_pos n with h0 | h0
  · subst h0
    have : cs = [] := List.eq_nil_of_length_eq_zero hn
    subst this
    exact ⟨.emp, [], μ, by rw [List.append_nil]; exact hR, by rw [List.append_nil]; exact Ext.refl _ _, ⟨a, c, rfl⟩, RdL_emp⟩
  · obtain ⟨b, off, rfl, hb, hcc⟩ := hc h0
    obtain ⟨r1, r2⟩ := hR.addRo b off el 1 hb cs hcc
    refine ⟨.sl H.length 0 0 n none, _, _, r1, r2, ?_, RdL_h0 rfl hn⟩
    exact ⟨⟨0, true, el, 1, cs⟩, _, c, by simp, Nat.le_refl _, rfl, fun _ => ⟨hcap, fun _ => by simp [ad], (by intro k hk; cases hk), fun hro => by cases hro⟩⟩

/-- A slice of one-cell elements. -/
theorem arg_row {H0 : Type} {enc : TypeId × Value → H0} {P : Program} {W : World} {base : Nat} {spare : Nat → Bool} {held : Bool} {fuel : Nat} {t e : TypeId} {v : Value} {x : DataW H0 × List MemPlace} {μ : Nat → Pl} {H : Hp} (hR : Rep W μ H W)
    {α : Type} [Inhabited α] (F : α → LV) (good : α → Prop) (ht : P.underlying t = some (.slice e)) (hc : P.cellsOf e = 1)
    (hdec : ∀ fuel cs x, DataW.trod enc P W base spare held fuel e cs = some x → ∃ y w, cs = [w] ∧ good y ∧ w.oneCell' = true ∧ ∀ μ H, BR μ H (F y) w)
    (h : DataW.trod enc P W base spare held fuel t [v] = some x) :
    ∃ (xs : List α) (lv : LV) (H' : Hp) (μ' : Nat → Pl), xs.length ≤ 9223372036854775807 ∧ (∀ y ∈ xs, good y) ∧ Rep W μ' (H ++ H') W ∧ Ext μ H μ' (H ++ H') ∧ BR μ' (H ++ H') lv v ∧ RdL (H ++ H') lv (xs.map F) := by
  rcases DataW.trod_slice ht h with ⟨hv, _⟩ | ⟨a, len, cap, elems, rest, n, _, hv, rfl, hb, hl, hm, hlen, hel, hsp, hns⟩
  · simp only [List.cons.injEq, and_true] at hv
    subst hv
    obtain ⟨lv, H', μ', h1, h2, h3, h4⟩ := arg_cells hR (n := 0) (c := 0) (el := 0) (a := none) (cs := []) rfl (Nat.le_refl _) (fun h => absurd h (Nat.lt_irrefl _))
    exact ⟨[], lv, H', μ', by simp, by simp, h1, h2, h3, h4⟩
  simp only [List.cons.injEq, and_true] at hv
  subst hv
  have each : ∀ i, i < len → ∃ y w, W.cell? (a.add i) = some w ∧ good y ∧ w.oneCell' = true ∧ ∀ μ H, BR μ H (F y) w := by
    intro i hi
    have h1 := hel i hi
    rw [List.getElem?_eq_getElem (by omega), hc, Nat.mul_one, Option.bind_eq_some_iff] at h1
    obtain ⟨cs', hcs, hy⟩ := h1
    obtain ⟨y, w, rfl, hg, ho, hF⟩ := hdec _ _ _ hy
    exact ⟨y, w, cell_of_cells?_one hcs, hg, ho, hF⟩
  have hch : ∃ g : Nat → α, ∀ i, i < len → ∃ w, W.cell? (a.add i) = some w ∧ good (g i) ∧ w.oneCell' = true ∧ ∀ μ H, BR μ H (F (g i)) w := by
    have hex : ∀ i, ∃ y : α, i < len → ∃ w, W.cell? (a.add i) = some w ∧ good y ∧ w.oneCell' = true ∧ ∀ μ H, BR μ H (F y) w := fun i => by
      by_cases hi : i < len
      · obtain ⟨y, hy⟩ := each i hi; exact ⟨y, fun _ => hy⟩
      · exact ⟨default, fun h => absurd h hi⟩
    exact ⟨fun i => Classical.choose (hex i), fun i => Classical.choose_spec (hex i)⟩
  obtain ⟨g, hg⟩ := hch
  have hcell : 0 < len → ∃ b off, some a = some (⟨b, off, none⟩ : Addr) ∧ b < W.heap.size ∧ ∀ (j : Nat) (x : LV), (((List.range len).map g).map F)[j]? = some x → ∃ v, W.cell? ⟨b, off + j, none⟩ = some v ∧ v.oneCell' = true ∧ BR μ H x v := by
    intro h0
    have hs : a.spot = none := by
      obtain ⟨w, this, _⟩ := hg 0 h0
      simp only [Addr.add, if_true] at this
      unfold World.cell? at this
      split at this
      · split at this
        · cases this
        · rename_i hsp; simpa using hsp
      · cases this
    obtain ⟨b, off, sp⟩ := a
    simp only at hs
    subst hs
    have hadd : ∀ i, (⟨b, off, none⟩ : Addr).add i = ⟨b, off + i, none⟩ := fun i => by
      unfold Addr.add
      split
      · subst_vars; rfl
      · rfl
    obtain ⟨w, hw, _⟩ := hg 0 h0
    refine ⟨b, off, rfl, World.block_lt_of_cell? W _ hw, fun j x hx => ?_⟩
    have hj : j < len := by
      rcases Nat.lt_or_ge j len with h | h
      · exact h
      · rw [List.getElem?_eq_none (l := ((List.range len).map g).map F) (by simpa using h)] at hx
        cases hx
    simp [hj] at hx
    subst hx
    obtain ⟨w, k1, _, k2, k3⟩ := hg j hj
    rw [hadd] at k1
    exact ⟨w, k1, k2, k3 _ _⟩
  obtain ⟨lv, H', μ', h1, h2, h3, h4⟩ := arg_cells hR (n := len) (c := cap) (el := e) (a := some a) (cs := ((List.range len).map g).map F) (by simp) hl hcell
  refine ⟨(List.range len).map g, lv, H', μ', by simp; unfold maxLen at hm; omega, ?_, h1, h2, h3, h4⟩
  intro y hy
  simp only [List.mem_map, List.mem_range] at hy
  obtain ⟨i, hi, rfl⟩ := hy
  obtain ⟨w, _, k, _⟩ := hg i hi
  exact k

/-- A call of the abstract machine whose result is true. -/
theorem bridge {P : Program} {g : FuncId} {fn : Func} {c : Code} {args : List LV} {cargs : Array Value} {H : Hp} {μ : Nat → Pl} {W : World} (h : FunH P g args H fun r _ => r = .bool true) (hR : Rep W μ H W) (ha : All2 (TR μ H) args cargs.toList)
    (hf : P.funcs[g]? = some fn) (hn : (fn.name == "runtime.NumGoroutine") = false) (hb : fn.body = some c) :
    Calls P g cargs W fun e W' => e = .returned (.bool true) ∧ Below W.heap.size W W' := by
  have h1 := h W μ W cargs hR ha
  rw [enter_of hf hn hb cargs W] at h1
  refine Calls.mono h1 fun e w' ⟨v, he, r, μ', H', k1, k2, k3, k4⟩ => ?_
  subst k4
  have hv : v = .bool true := k2
  subst hv
  exact ⟨he, k1.bel⟩

theorem trod_sl {H0 : Type} {enc : TypeId × Value → H0} {P : Program} {W : World} {r : Reach} {b0 base : Nat} {spare : Nat → Bool} {held : Bool} {t e : TypeId} {v : Value} {d : DataW H0} {p : List MemPlace}
    (ht : P.underlying t = some (.slice e)) (hv : Value.okWide P W r b0 t v) (h : DataW.Trod enc P W base spare held t v d p) : ∃ fuel x, DataW.trod enc P W base spare held fuel t [v] = some x := by
  obtain ⟨a, len, cap, rfl⟩ := okWide_slice ht hv
  obtain ⟨fuel, hf⟩ := h
  exact ⟨fuel, _, hf⟩

theorem bnd_i64 {c : Int} (h : (Lit.int .i64 c).wf = true) : -9223372036854775808 ≤ c ∧ c ≤ 9223372036854775807 := by
  simpa [Lit.wf, IntKind.min, IntKind.max, IntKind.signed, IntKind.bits] using h

set_option maxRecDepth 100000 in
theorem arg_i64s {H0 : Type} {enc : TypeId × Value → H0} {W : World} {r : Reach} {base : Nat} {v : Value} {d : DataW H0} {p : List MemPlace} {μ : Nat → Pl} {H : Hp} (hR : Rep W μ H W)
    (hv : Value.okWide Try.prog W r base 24 v) (h : DataW.Trod enc Try.prog W 0 (fun _ => true) true 24 v d p) :
    ∃ (xs : List Int) (lv : LV) (H' : Hp) (μ' : Nat → Pl), xs.length ≤ 9223372036854775807 ∧ (∀ y ∈ xs, -9223372036854775808 ≤ y ∧ y ≤ 9223372036854775807) ∧ Rep W μ' (H ++ H') W ∧ Ext μ H μ' (H ++ H') ∧ BR μ' (H ++ H') lv v ∧ RdL (H ++ H') lv (xs.map (LV.int .i64)) := by
  obtain ⟨fuel, x, hx⟩ := trod_sl Try.underlying24 hv h
  exact arg_row hR (LV.int .i64) _ Try.underlying24 (by kernel_rfl) (fun fuel cs x hx => by obtain ⟨b, hb, _, hw⟩ := DataW.trod_int Try.underlying2 hx; exact ⟨b, _, hb, bnd_i64 hw, rfl, fun _ _ => rfl⟩) hx
end Go.Proofs.Ytpbafacehmjdmaa

namespace Go.Proofs.Ytpbafacehmjdmaa
open Go.ChangeShapes Go.WideShapes Go.ChangeAt Go.RowKit
set_option linter.unusedSimpArgs false
set_option linter.unusedVariables false
set_option maxRecDepth 100000

theorem bounds_i64' {c : Int} (h : (Lit.int .i64 c).wf = true) : -9223372036854775808 ≤ c ∧ c ≤ 9223372036854775807 := bnd_i64 h
section
variable {H0 : Type} {enc : TypeId × Value → H0} {W : World} {μ : Nat → Pl} {H : Hp} {v : Value} {fuel : Nat} {x : DataW H0 × List MemPlace}
theorem fok_can (b : Nat) (h : (Lit.float .f32 b).wf = true) : FOk (can .f32 b) := by
  intro c hc
  obtain ⟨rfl, h2⟩ := can_some hc
  exact ⟨h2, by simpa [Lit.wf] using h⟩
theorem row_f32 (h : DataW.trod enc Try.prog W 0 (fun _ => true) true fuel 32 [v] = some x) : ∃ o : Option Nat, FOk o ∧ ∀ μ H, BR μ H (.flt .f32 o) v := by
  obtain ⟨b, e, _, w⟩ := DataW.trod_float Try.underlying32 h
  simp at e; subst e
  exact ⟨can .f32 b, fok_can b w, fun _ _ => ⟨b, rfl, rfl⟩⟩
theorem arg_f32 {r : Reach} {base : Nat} {d : DataW H0} {p : List MemPlace} (hv : Value.okWide Try.prog W r base 32 v) (h : DataW.Trod enc Try.prog W 0 (fun _ => true) true 32 v d p) : ∃ o : Option Nat, FOk o ∧ ∀ μ H, BR μ H (.flt .f32 o) v := by
  obtain ⟨b, rfl⟩ := okWide_float Try.underlying32 hv
  obtain ⟨fuel, hf⟩ := h
  exact row_f32 (by simpa [Value.cells] using hf)
theorem row_i64s (hR : Rep W μ H W) (h : DataW.trod enc Try.prog W 0 (fun _ => true) true fuel 24 [v] = some x) :
    ∃ (xs : List Int) (lv : LV) (H' : Hp) (μ' : Nat → Pl), xs.length ≤ 9223372036854775807 ∧ (∀ y ∈ xs, -9223372036854775808 ≤ y ∧ y ≤ 9223372036854775807) ∧ Rep W μ' (H ++ H') W ∧ Ext μ H μ' (H ++ H') ∧ BR μ' (H ++ H') lv v ∧ RdL (H ++ H') lv (xs.map (LV.int .i64)) :=
  arg_row hR (LV.int .i64) _ Try.underlying24 (by kernel_rfl) (fun fuel cs x hx => by obtain ⟨b, hb, _, hw⟩ := DataW.trod_int Try.underlying2 hx; exact ⟨b, _, hb, bnd_i64 hw, rfl, fun _ _ => rfl⟩) h
theorem array5 {α : Type} {cs : Array α} (h : cs.size = 5) : ∃ c0 c1 c2 c3 c4, cs = #[c0, c1, c2, c3, c4] := by
  obtain ⟨l⟩ := cs
  match l, h with
  | [c0, c1, c2, c3, c4], _ => exact ⟨c0, c1, c2, c3, c4, rfl⟩
theorem open_agg5 {P : Program} {w : World} {base : Nat} {spare : Nat → Bool} {held : Bool} {r : Reach} {b0 : Nat} {t : TypeId} {f0 f1 f2 f3 f4 : Field} {v : Value} {d : DataW H0} {p : List MemPlace} (hs : P.underlying t = some (.struct #[f0, f1, f2, f3, f4])) (hone : Deep.oneCellFields P #[f0, f1, f2, f3, f4] = true) (hC : P.cellsOf t = 5)
    (hv : Value.okWide P w r b0 t v) (h : DataW.Trod enc P w base spare held t v d p) :
    ∃ (v0 v1 v2 v3 v4 : Value) (y0 y1 y2 y3 y4 : DataW H0 × List MemPlace) (n : Nat), v = .agg #[v0, v1, v2, v3, v4] ∧ d = .agg [y0.1, y1.1, y2.1, y3.1, y4.1] ∧ p = y0.2 ++ (y1.2 ++ (y2.2 ++ (y3.2 ++ y4.2))) ∧
      DataW.trod enc P w base spare held n f0.type [v0] = some y0 ∧ DataW.trod enc P w base spare held n f1.type [v1] = some y1 ∧ DataW.trod enc P w base spare held n f2.type [v2] = some y2 ∧ DataW.trod enc P w base spare held n f3.type [v3] = some y3 ∧ DataW.trod enc P w base spare held n f4.type [v4] = some y4 := by
  obtain ⟨cs, rfl, hsz⟩ := okWide_struct hs hv
  obtain ⟨c0, c1, c2, c3, c4, rfl⟩ := array5 (hsz.trans hC)
  obtain ⟨fuel, hf⟩ := h
  obtain ⟨xs, n, _, hx, hl, hlen, hf⟩ := DataW.trod_struct hs hf
  match xs, hlen with
  | [y0, y1, y2, y3, y4], _ =>
    obtain ⟨o0, k0⟩ := Deep.hone_of hone 0 f0 rfl
    obtain ⟨o1, k1⟩ := Deep.hone_of hone 1 f1 rfl
    obtain ⟨o2, k2⟩ := Deep.hone_of hone 2 f2 rfl
    obtain ⟨o3, k3⟩ := Deep.hone_of hone 3 f3 rfl
    obtain ⟨o4, k4⟩ := Deep.hone_of hone 4 f4 rfl
    simp only [Prod.mk.injEq] at hx
    exact ⟨c0, c1, c2, c3, c4, y0, y1, y2, y3, y4, n, rfl, by simpa using hx.1, by simpa using hx.2, by simpa [Value.cells, o0, k0] using hf 0 f0 rfl, by simpa [Value.cells, o1, k1] using hf 1 f1 rfl, by simpa [Value.cells, o2, k2] using hf 2 f2 rfl, by simpa [Value.cells, o3, k3] using hf 3 f3 rfl, by simpa [Value.cells, o4, k4] using hf 4 f4 rfl⟩
end
end Go.Proofs.Ytpbafacehmjdmaa

