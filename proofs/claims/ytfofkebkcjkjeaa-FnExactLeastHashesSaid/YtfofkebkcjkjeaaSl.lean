/- Slices of one-cell elements: how they read, how the call's own ones are held. -/
import Derived.Test.YtfofkebkcjkjeaaFl
import Derived.Laws.MakeOwn
import Derived.Laws.OwnMore
namespace Go.Proofs.Ytfofkebkcjkjeaa
open Go.RowKit
set_option linter.unusedSimpArgs false
set_option linter.unusedVariables false

def ix {α : Type} [Inhabited α] (xs : List α) (i : Nat) : α := xs.getD i default

theorem ix_eq {α : Type} [Inhabited α] (xs : List α) (i : Nat) (h : i < xs.length) : ix xs i = xs[i] := by
  unfold ix; simp [h]

theorem ix_get? {α : Type} [Inhabited α] (xs : List α) (i : Nat) (h : i < xs.length) : xs[i]? = some (ix xs i) := by
  rw [ix_eq xs i h]; simp

theorem take_ix {α : Type} [Inhabited α] (xs : List α) (k : Nat) (h : k < xs.length) : xs.take (k + 1) = xs.take k ++ [ix xs k] := by
  rw [ix_eq xs k h, List.take_succ_eq_append_getElem h]

theorem all_ix {α : Type} [Inhabited α] (xs : List α) (p : α → Bool) : xs.all p = true ↔ ∀ j, j < xs.length → p (ix xs j) = true := by
  rw [List.all_eq_true]
  constructor
  · intro h j hj; exact h _ (by rw [ix_eq xs j hj]; exact List.getElem_mem hj)
  · intro h x hx
    obtain ⟨j, hj, rfl⟩ := List.getElem_of_mem hx
    rw [← ix_eq xs j hj]; exact h j hj

theorem all_ix_false {α : Type} [Inhabited α] (xs : List α) (p : α → Bool) (j : Nat) (hj : j < xs.length) (h : p (ix xs j) = false) : xs.all p = false := by
  cases e : xs.all p
  · rfl
  · rw [(all_ix xs p).1 e j hj] at h; cases h

/-- The slice a, n reads as xs. -/
def Rd {α : Type} [Inhabited α] (w : World) (f : α → Value) (a : Option Addr) (n : Nat) (xs : List α) : Prop :=
  n = xs.length ∧ n ≤ 17592186044416 ∧ (xs = [] ∨ ∃ b off, a = some ⟨b, off, none⟩ ∧ b < w.heap.size ∧ ∀ i, i < xs.length → w.cell? ⟨b, off + i, none⟩ = some (f (ix xs i)))

theorem Rd.below {α : Type} [Inhabited α] {w w' : World} {f : α → Value} {a : Option Addr} {n : Nat} {xs : List α} (h : Rd w f a n xs) (hb : Below w.heap.size w w') : Rd w' f a n xs := by
  obtain ⟨h1, h2, h3⟩ := h
  refine ⟨h1, h2, h3.imp id ?_⟩
  rintro ⟨b, off, rfl, hlt, hc⟩
  exact ⟨b, off, rfl, Nat.lt_of_lt_of_le hlt hb.size, fun i hi => (hb.cell (p := ⟨b, off + i, none⟩) hlt).trans (hc i hi)⟩

theorem Rd.drewN {α : Type} [Inhabited α] {w : World} {f : α → Value} {a : Option Addr} {n : Nat} {xs : List α} (h : Rd w f a n xs) (m : Nat) : Rd (w.drewN m) f a n xs := h.below (below_drewN' (Below.refl _ _))

/-- What the call owns reads. -/
theorem own_rd {α : Type} [Inhabited α] {w : World} {base : Nat} {e : TypeId} {v : Value} {n : Nat} {f : α → Value} {xs : List α} (h : w.ownsRow base e 1 v n (xs.map f)) (hn : n ≤ 17592186044416) :
    ∃ a cap, v = .slice a n cap ∧ Rd w f a n xs := by
  obtain ⟨hl, h⟩ := h
  have hl' : n = xs.length := by simpa using hl.symm
  rcases h with ⟨rfl, rfl⟩ | ⟨g, cap, cur, rfl, hb, hg, hc, _, hs, ht⟩
  · exact ⟨none, 0, rfl, hl', hn, Or.inl (List.eq_nil_of_length_eq_zero hl'.symm)⟩
  · refine ⟨_, _, rfl, hl', hn, Or.inr ⟨g, 0, rfl, ?_, ?_⟩⟩
    · rcases Nat.lt_or_ge g w.heap.size with h | h
      · exact h
      · simp [Array.getElem?_eq_none h] at hg
    · intro i hi
      have hi' : (xs.map f)[i]? = some (f (ix xs i)) := by rw [List.getElem?_map, ix_get? xs i hi]; rfl
      rw [← ht, List.getElem?_take, if_pos (by omega)] at hi'
      rw [Nat.zero_add, cell_of_row w g i cur e (0, 0) hg]
      simpa using hi'

theorem own_below {w w' : World} {base : Nat} {e : TypeId} {s : Nat} {v : Value} {n : Nat} {xs : List Value} (h : w.ownsRow base e s v n xs) (hb : Below w.heap.size w w') : w'.ownsRow base e s v n xs := by
  obtain ⟨hl, h⟩ := h
  refine ⟨hl, h.imp id ?_⟩
  rintro ⟨g, cap, cur, rfl, h1, hg, r⟩
  have hlt : g < w.heap.size := by
    rcases Nat.lt_or_ge g w.heap.size with h | h
    · exact h
    · simp [Array.getElem?_eq_none h] at hg
  exact ⟨g, cap, cur, rfl, h1, (hb.block g hlt).trans hg, r⟩

theorem own_mono {w : World} {base base' : Nat} {e : TypeId} {s : Nat} {v : Value} {n : Nat} {xs : List Value} (h : w.ownsRow base e s v n xs) (hb : base' ≤ base) : w.ownsRow base' e s v n xs := by
  obtain ⟨hl, h⟩ := h
  refine ⟨hl, h.imp id ?_⟩
  rintro ⟨g, cap, cur, rfl, h1, r⟩
  exact ⟨g, cap, cur, rfl, by omega, r⟩

theorem madeOne (z : Value) (n : Nat) : (madeCells #[z] n).toList = List.replicate n z := toList_madeCells_one z n

end Go.Proofs.Ytfofkebkcjkjeaa
