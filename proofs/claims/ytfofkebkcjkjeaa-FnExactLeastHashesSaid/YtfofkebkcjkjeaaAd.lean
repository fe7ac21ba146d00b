/- The abstract machine's operations are sound: conversions, parts of values, addresses. -/
import Derived.Test.YtfofkebkcjkjeaaAc
namespace Go.Proofs.Ytfofkebkcjkjeaa
open Go.RowKit
set_option linter.unusedSimpArgs false
set_option linter.unusedVariables false

theorem signW (k : FloatKind) : k.format.signWeight = 2 ^ (k.format.exponentBits + k.format.fractionBits) := rfl

theorem isNum_neg (k : FloatKind) (b : Nat) : isNum k (Op.negFloat k b) = isNum k b := by
  have h : Op.negFloat k b % k.format.signWeight = b % k.format.signWeight := by
    unfold Op.negFloat
    rw [signW, Nat.xor_mod_two_pow, Nat.mod_self, Nat.xor_zero]
  cases h1 : isNum k b
  · cases h2 : isNum k (Op.negFloat k b)
    · rfl
    · rw [isNum_iff, h, ← isNum_iff, h1] at h2; cases h2
  · rw [isNum_iff] at h1
    rw [isNum_iff, h]; exact h1

theorem can_neg (k : FloatKind) (b : Nat) : can k (Op.negFloat k b) = negC k (can k b) := by
  unfold can negC
  rw [isNum_neg]
  cases isNum k b <;> rfl

theorem run_aun {P : Program} {w : World} {op : UnOp} {x y : LV} {v : Value} {μ : Nat → Pl} {H : Hp} (h : aun op x = some y) (hx : TR μ H x v) :
    ∃ u, (Op.unary op v).run P w = .ok u w ∧ BR μ H y u := by
  cases x <;> simp only [aun] at h <;> try cases h
  case int k n =>
    have hv : v = .int k n := hx
    subst hv
    cases op <;> simp only at h <;> cases h
    exact ⟨_, by simp [Op.unary, Op.intArith] <;> rfl, rfl⟩
  case flt k o =>
    obtain ⟨b, rfl, rfl⟩ : ∃ b, v = .float k b ∧ can k b = o := hx
    cases op <;> simp only at h <;> cases h
    exact ⟨_, by simp [Op.unary] <;> rfl, _, rfl, can_neg k b⟩
  case bool b =>
    have hv : v = .bool b := hx
    subst hv
    cases op <;> simp only at h <;> cases h
    exact ⟨_, by simp [Op.unary] <;> rfl, rfl⟩

theorem can_write (k : FloatKind) (d : Ieee.Datum) (h : d.isNaN = false) : can k (k.format.write d) = some (k.format.write d) := can_num (write_num k d h)

theorem read_isNum {k : FloatKind} {b : Nat} (h : isNum k b = true) : ∀ s f, k.decode b ≠ .nan s f := by
  intro s f e
  unfold isNum at h
  unfold FloatKind.decode at e
  rw [e] at h
  cases h

theorem read_notNum {k : FloatKind} {b : Nat} (h : isNum k b = false) : ∃ s f, k.decode b = .nan s f := by
  unfold isNum at h
  unfold FloatKind.decode
  cases hr : k.format.read b <;> simp [hr, Ieee.Datum.isNaN] at h
  exact ⟨_, _, rfl⟩

theorem isNum_nanConv (k : FloatKind) (b : Nat) (t : Nat) : isNum k ((Question.nanConv k b).cut t) = false := by
  have : ∃ s f, k.format.read ((Question.nanConv k b).cut t) = .nan s f := by
    cases k
    · exact read_nan32 t
    · exact read_nan64 t
  obtain ⟨s, f, e⟩ := this
  simp [isNum, e, Ieee.Datum.isNaN]

theorem can_fcv (s k : FloatKind) (b : Nat) (w : World) (o : Option Nat) (h : cvC s k (can s b) = some o) : can k (fcv s k b w) = o := by
  unfold cvC at h
  unfold fcv
  by_cases e : s = k
  · subst e
    simp only [if_true] at h ⊢
    exact Option.some.inj h
  · simp only [e, if_false] at h ⊢
    by_cases hn : isNum s b = true
    · rw [can_num hn] at h
      simp only at h
      cases hd : s.decode b with
      | nan g f => exact absurd hd (read_isNum hn g f)
      | infinity g =>
        rw [hd] at h
        simp only [Option.some.injEq] at h
        subst h
        exact can_write k _ rfl
      | number g m x =>
        rw [hd] at h
        simp only at h ⊢
        by_cases hi : (k.decode (k.encode (.number g m x))).isInfinity = true
        · rw [if_pos hi] at h; cases h
        · rw [if_neg hi] at h
          rw [if_neg hi]
          simp only [Option.some.injEq] at h
          subst h
          exact can_write k _ rfl
    · have hn' : isNum s b = false := by simpa using hn
      obtain ⟨g, f, hd⟩ := read_notNum hn'
      rw [can_nan hn'] at h
      simp only [Option.some.injEq] at h
      subst h
      rw [hd]
      exact can_nan (isNum_nanConv k b _)

theorem tab_und {P : Program} {T : Tab} (hT : TabOk P T) {t : TypeId} {e : TE} (h : T t = some e) : ∃ d, P.underlying t = some d ∧ e.td.Ok d := by
  obtain ⟨d, i, z, h1, h2, _⟩ := hT t e h
  exact ⟨d, h1, h2⟩
theorem tab_info {P : Program} {T : Tab} (hT : TabOk P T) {t : TypeId} {e : TE} (h : T t = some e) : ∃ i z, P.info? t = some i ∧ i.size = e.sz ∧ i.bytes = e.by_ ∧ i.zero = some z ∧ e.zs.length = e.sz ∧ (∀ μ H, All2 (BR μ H) e.zs z.cells.toList) ∧ ∀ v ∈ z.cells.toList, v.oneCell' = true := by
  obtain ⟨d, i, z, h1, h2, h3, h4⟩ := hT t e h
  exact ⟨i, z, h3, h4⟩

theorem run_und {P : Program} {w : World} {t : TypeId} {d : TypeDesc} (h : P.underlying t = some d) : (underlying t).run P w = .ok d w := run_underlying h w
theorem run_siz {P : Program} {w : World} {T : Tab} (hT : TabOk P T) {t : TypeId} {e : TE} (h : T t = some e) : (sizeOf t).run P w = .ok e.sz w := by
  obtain ⟨i, z, h1, h2, _⟩ := tab_info hT h
  simp [sizeOf, typeInfo, h1, h2]
theorem run_agg {P : Program} {w : World} {T : Tab} (hT : TabOk P T) {t : TypeId} {e : TE} (h : T t = some e) : (isAgg t).run P w = .ok e.td.agg w := by
  obtain ⟨d, h1, h2⟩ := tab_und hT h
  cases ht : e.td <;> rw [ht] at h2 <;> simp only [TD.Ok] at h2
  case other =>
    cases d <;> simp [isAgg, run_underlying h1, TD.agg]
    · exact absurd rfl (h2.2 _ _)
    · exact absurd rfl (h2.1 _)
  case struct fs =>
    obtain ⟨f, rfl, _⟩ := h2
    simp [isAgg, run_underlying h1, TD.agg]
  all_goals (subst h2; simp [isAgg, run_underlying h1, TD.agg])

theorem run_aconv {P : Program} {w : World} {T : Tab} (hT : TabOk P T) {s d : TypeId} {x y : LV} {v : Value} {μ : Nat → Pl} {H : Hp} (h : aconv T s d x = some y) (hx : TR μ H x v) :
    ∃ u n, (convert s d v).run P w = .ok u (w.drewN n) ∧ BR μ H y u := by
  unfold aconv at h
  split at h
  · rename_i es k sz by_ zs hs hd
    obtain ⟨ds, hs1, _⟩ := tab_und hT hs
    obtain ⟨dd, hd1, hd2⟩ := tab_und hT hd
    have hd3 : dd = .int k := hd2
    subst hd3
    split at h
    · rename_i k' n
      cases h
      have hv : v = .int k' n := hx
      subst hv
      refine ⟨_, 0, ?_, rfl⟩
      cases ds <;> simp [convert, run_underlying hs1, run_underlying hd1, Conv.intToInt] <;> rfl
    · rename_i s' b
      obtain ⟨b', rfl, hb⟩ : ∃ b', v = .float s' b' ∧ can s' b' = some b := hx
      obtain ⟨rfl, hn⟩ := can_some hb
      split at h
      · rename_i n hi
        split at h
        · rename_i hr
          cases h
          refine ⟨_, 0, ?_, rfl⟩
          cases ds <;> simp [convert, run_underlying hs1, run_underlying hd1, Conv.floatToInt, hi, hr] <;> rfl
        · cases h
      · cases h
    · cases h
  · rename_i es k sz by_ zs hs hd
    obtain ⟨ds, hs1, _⟩ := tab_und hT hs
    obtain ⟨dd, hd1, hd2⟩ := tab_und hT hd
    have hd3 : dd = .float k := hd2
    subst hd3
    split at h
    · rename_i k' n
      cases h
      have hv : v = .int k' n := hx
      subst hv
      refine ⟨.float k (k.nearest n), 0, ?_, k.nearest n, rfl, can_write k (.number (n < 0) n.natAbs 0) rfl⟩
      cases ds <;> simp [convert, run_underlying hs1, run_underlying hd1, Conv.intToFloat] <;> rfl
    · rename_i s' o
      obtain ⟨b', rfl, rfl⟩ : ∃ b', v = .float s' b' ∧ can s' b' = o := hx
      simp only [Option.map_eq_some_iff] at h
      obtain ⟨o', h1, rfl⟩ := h
      exact ⟨_, _, run_fcv s d s' k b' w (by simp [hs1]) hd1, _, rfl, can_fcv s' k b' w o' h1⟩
    · cases h
  · cases h
end Go.Proofs.Ytfofkebkcjkjeaa
