/- The abstract machine's operations are sound: all of them. -/
import Derived.Test.YtfofkebkcjkjeaaAj
namespace Go.Proofs.Ytfofkebkcjkjeaa
open Go.RowKit
set_option linter.unusedSimpArgs false
set_option linter.unusedVariables false
set_option linter.unusedSectionVars false

theorem args_one {α β : Type} {f : α → β} {a : Array α} {x : β} (h : a.toList.map f = [x]) : ∃ p, a = #[p] ∧ f p = x := by
  obtain ⟨l⟩ := a
  match l, h with
  | [p], h => exact ⟨p, rfl, by simpa using h⟩
theorem args_two {α β : Type} {f : α → β} {a : Array α} {x y : β} (h : a.toList.map f = [x, y]) : ∃ p q, a = #[p, q] ∧ f p = x ∧ f q = y := by
  obtain ⟨l⟩ := a
  match l, h with
  | [p, q], h => exact ⟨p, q, rfl, by simpa using h⟩
theorem args_three {α β : Type} {f : α → β} {a : Array α} {x y z : β} (h : a.toList.map f = [x, y, z]) : ∃ p q r, a = #[p, q, r] ∧ f p = x ∧ f q = y ∧ f r = z := by
  obtain ⟨l⟩ := a
  match l, h with
  | [p, q, r], h => exact ⟨p, q, r, rfl, by simpa using h⟩
theorem arr_one {α : Type} {a : Array α} {x : α} (h : a.toList = [x]) : a = #[x] := by obtain ⟨l⟩ := a; simp at h; subst h; rfl
theorem arr_two {α : Type} {a : Array α} {x y : α} (h : a.toList = [x, y]) : a = #[x, y] := by obtain ⟨l⟩ := a; simp at h; subst h; rfl

section
variable {P : Program} {T : Tab} (hT : TabOk P T) {w0 w : World} {μ : Nat → Pl} {H : Hp} (hR : Rep w0 μ H w)

theorem lenOf_sl {x : LV} {n : Nat} {v : Value} (h : lenOf x = some n) (hx : TR μ H x v) : ∃ a c, v = .slice a n c := by
  cases x <;> simp only [lenOf] at h <;> try cases h
  case nils => obtain ⟨a, hv⟩ := hx; exact ⟨a, 0, hv⟩
  case emp => obtain ⟨a, c, hv⟩ := hx; exact ⟨a, c, hv⟩
  case sl id ver off cap => obtain ⟨o, a, c, _, _, hv, _⟩ := hx; exact ⟨_, c, hv⟩

theorem aminmax_sound {f : Int → Int → Int} {xs : List LV} {x : LV} (h : aminmax f xs = some x) {r : Operand → LV} {ρ : Operand → Value} {args : Array Operand} (ha : args.toList.map r = xs) (hρ : ∀ x, TR μ H (r x) (ρ x)) :
    (∃ k a b p q, args = #[p, q] ∧ ρ p = .int k a ∧ ρ q = .int k b ∧ x = .int k (f a b)) ∨ (∃ k a b c p q s, args = #[p, q, s] ∧ ρ p = .int k a ∧ ρ q = .int k b ∧ ρ s = .int k c ∧ x = .int k (f (f a b) c)) := by
  unfold aminmax at h
  split at h
  · rename_i k a k' b
    split at h
    · rename_i hk
      subst hk
      cases h
      obtain ⟨p, q, rfl, e1, e2⟩ := args_two ha
      have h1 := hρ p
      have h2 := hρ q
      rw [e1] at h1
      rw [e2] at h2
      exact Or.inl ⟨k, a, b, p, q, rfl, h1, h2, rfl⟩
    · cases h
  · rename_i k a k' b k'' c
    split at h
    · rename_i hk
      obtain ⟨rfl, rfl⟩ := hk
      cases h
      obtain ⟨p, q, s, rfl, e1, e2, e3⟩ := args_three ha
      have h1 := hρ p
      have h2 := hρ q
      have h3 := hρ s
      rw [e1] at h1
      rw [e2] at h2
      rw [e3] at h3
      exact Or.inr ⟨k, a, b, c, p, q, s, rfl, h1, h2, h3, rfl⟩
    · cases h
  · cases h

include hT hR

theorem abuiltin_sound {b : Builtin} {ts : Array TypeId} {args : Array Operand} {r : Operand → LV} {ρ : Operand → Value} (hρ : ∀ x, TR μ H (r x) (ρ x)) {x : LV} {H' : Hp} (h : abuiltin T H b ts.toList (args.toList.map r) = some (x, H')) (ty : TypeId) (cs : Array Bool) :
    Snd P w0 μ H w ((builtin b ts ty cs (args.map ρ)).run P w) x H' := by
  generalize hts : ts.toList = tl at h
  generalize hal : args.toList.map r = al at h
  unfold abuiltin at h
  split at h
  · -- len
    obtain rfl := arr_one hts
    obtain ⟨p, rfl, e⟩ := args_one hal
    have h1 := hρ p
    rw [e] at h1
    split at h
    · rename_i t x0 et sz by_ zs hs
      simp only [Option.map_eq_some_iff, Prod.mk.injEq] at h
      obtain ⟨n, hn, rfl, rfl⟩ := h
      obtain ⟨d, g1, g2⟩ := tab_und hT hs
      have hd : d = .slice et := g2
      subst hd
      refine Snd.still hR (v := .int .i64 n) ?_ rfl
      obtain ⟨a, c, hv⟩ := lenOf_sl hn h1
      simp [builtin, Builtin.len_, run_underlying g1, hv, goInt]
    · rename_i t x0 n et sz by_ zs hs
      cases h
      obtain ⟨d, g1, g2⟩ := tab_und hT hs
      have hd : d = .array n et := g2
      subst hd
      exact Snd.still hR (v := .int .i64 n) (by simp [builtin, Builtin.len_, run_underlying g1, goInt]) rfl
    · cases h
  · -- append
    obtain rfl := arr_two hts
    obtain ⟨p, q, rfl, e1, e2⟩ := args_two hal
    split at h
    · rename_i ht
      subst ht
      have h1 := hρ p
      have h2 := hρ q
      rw [e1] at h1
      rw [e2] at h2
      obtain ⟨v, w', μ', k1, k2, k3, k4⟩ := aappend_sound hT hR h h1 h2 ty
      exact ⟨w', μ', Or.inl ⟨v, by simp [builtin, k1], k3⟩, k2, k4⟩
    · cases h
  · -- copy
    rename_i t t2 x0 y0
    obtain rfl := arr_two hts
    obtain ⟨p, q, rfl, e1, e2⟩ := args_two hal
    have h1 := hρ p
    have h2 := hρ q
    rw [e1] at h1
    rw [e2] at h2
    obtain ⟨v, w', k1, k2, k3, k4⟩ := acopy_sound (P := P) hT hR h h1 h2 t2 ty
    exact ⟨w', μ, Or.inl ⟨v, by simp [builtin, k1], k3⟩, k2, k4⟩
  · -- clear
    obtain rfl := arr_one hts
    obtain ⟨p, rfl, e⟩ := args_one hal
    have h1 := hρ p
    rw [e] at h1
    obtain ⟨v, w', k1, k2, k3, k4⟩ := aclear_sound (P := P) hT hR h h1 ty
    exact ⟨w', μ, Or.inl ⟨v, by simp [builtin, k1], k3⟩, k2, k4⟩
  · -- max
    simp only [Option.map_eq_some_iff, Prod.mk.injEq] at h
    obtain ⟨y, h1, rfl, rfl⟩ := h
    rcases aminmax_sound h1 hal hρ with ⟨k, a, b, p, q, rfl, g1, g2, rfl⟩ | ⟨k, a, b, c, p, q, s, rfl, g1, g2, g3, rfl⟩
    · exact Snd.still hR (by simp [builtin, Builtin.max_, Builtin.max2, g1, g2] <;> rfl) rfl
    · exact Snd.still hR (by simp [builtin, Builtin.max_, Builtin.max2, g1, g2, g3] <;> rfl) rfl
  · -- min
    simp only [Option.map_eq_some_iff, Prod.mk.injEq] at h
    obtain ⟨y, h1, rfl, rfl⟩ := h
    rcases aminmax_sound h1 hal hρ with ⟨k, a, b, p, q, rfl, g1, g2, rfl⟩ | ⟨k, a, b, c, p, q, s, rfl, g1, g2, g3, rfl⟩
    · exact Snd.still hR (by simp [builtin, Builtin.min_, Builtin.min2, g1, g2] <;> rfl) rfl
    · exact Snd.still hR (by simp [builtin, Builtin.min_, Builtin.min2, g1, g2, g3] <;> rfl) rfl
  · cases h

theorem parts_rel {r : Operand → LV} {ρ : Operand → Value} (hρ : ∀ x, TR μ H (r x) (ρ x)) (parts : Array (Nat × Operand)) :
    All2 (fun p q => p.1 = q.1 ∧ TR μ H p.2 q.2) (parts.toList.map fun p => (p.1, r p.2)) (parts.map fun (i, x) => (i, ρ x)).toList := by
  rw [Array.toList_map]
  generalize parts.toList = l
  induction l with
  | nil => trivial
  | cons p l ih => exact ⟨⟨rfl, hρ p.2⟩, ih⟩

theorem abin_sound {op : BinOp} {t : TypeId} {x y : Operand} {a b : LV} {va vb : Value} {z : LV} (h : abin T op t a b = some z) (ha : TR μ H a va) (hb : TR μ H b vb) :
    ∃ v n, (eqGuard op t x y va vb).run P w = .ok () w ∧ (binOp op t va vb).run P w = .ok v (w.drewN n) ∧ TR μ H z v := by
  cases a <;> cases b <;> try (simp only [abin] at h; cases h; done)
  case int.int k m k' m' =>
    have e1 : va = .int k m := ha
    have e2 : vb = .int k' m' := hb
    subst e1; subst e2
    obtain ⟨v, h1, h2⟩ := run_bin_int (P := P) (w := w) h μ H
    exact ⟨v, 0, run_eqGuard_int .., h1, TR.of_BR h2⟩
  case flt.flt k o k' o' =>
    obtain ⟨b1, rfl, rfl⟩ := ha
    obtain ⟨b2, rfl, rfl⟩ := hb
    obtain ⟨v, n, h1, h2⟩ := run_bin_flt (P := P) (w := w) h μ H
    exact ⟨v, n, run_eqGuard_flt .., h1, TR.of_BR h2⟩
  case bool.bool b1 b2 =>
    have e1 : va = .bool b1 := ha
    have e2 : vb = .bool b2 := hb
    subst e1; subst e2
    obtain ⟨v, h1, h2⟩ := run_bin_bool (w := w) hT h μ H
    exact ⟨v, 0, run_eqGuard_bool .., h1, TR.of_BR h2⟩
end
end Go.Proofs.Ytfofkebkcjkjeaa
