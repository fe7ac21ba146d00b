/- Slices, as the laws take them. -/
import Derived.Test.YtajekmpjebhaoaaArgD
import Derived.Test.YtajekmpjebhaoaaSl
namespace Go.Proofs.Ytajekmpjebhaoaa
open Go.ChangeShapes Go.WideShapes Go.ChangeAt Go.RowKit
set_option linter.unusedSimpArgs false
set_option linter.unusedVariables false

section
variable {H : Type} {enc : TypeId × Value → H} {P : Program} {W : World} {base : Nat} {spare : Nat → Bool} {held : Bool} {fuel : Nat} {t e : TypeId} {cs : List Value} {x : DataW H × List MemPlace}

/-- A slice of one-cell elements reads as a list. -/
def RdRaw {α : Type} [Inhabited α] (w : World) (f : α → Value) (a : Option Addr) (n : Nat) (xs : List α) : Prop :=
  n = xs.length ∧ (xs = [] ∨ ∃ b off, a = some ⟨b, off, none⟩ ∧ b < w.heap.size ∧ ∀ i, i < xs.length → w.cell? ⟨b, off + i, none⟩ = some (f (ix xs i)))

theorem RdRaw.rd {α : Type} [Inhabited α] {w : World} {f : α → Value} {a : Option Addr} {n : Nat} {xs : List α} (h : RdRaw w f a n xs) (hn : n ≤ 17592186044416) : Rd w f a n xs := ⟨h.1, hn, h.2⟩

theorem open_row {α : Type} [Inhabited α] (f : α → Value) (good : α → Prop) (ht : P.underlying t = some (.slice e)) (hc : P.cellsOf e = 1)
    (hdec : ∀ fuel cs x, DataW.trod enc P W base spare held fuel e cs = some x → ∃ y, cs = [f y] ∧ good y)
    (h : DataW.trod enc P W base spare held fuel t cs = some x) :
    ∃ (a : Option Addr) (n cap : Nat) (xs : List α), cs = [.slice a n cap] ∧ n ≤ 9223372036854775807 ∧ RdRaw W f a n xs ∧ ∀ y ∈ xs, good y := by
  rcases DataW.trod_slice ht h with ⟨rfl, _⟩ | ⟨a, len, cap, elems, rest, n, _, rfl, rfl, hb, hl, hm, hlen, hel, hsp, hns⟩
  · exact ⟨none, 0, 0, [], rfl, by omega, ⟨rfl, Or.inl rfl⟩, by simp⟩
  have each : ∀ i, i < len → ∃ y, W.cell? (a.add i) = some (f y) ∧ good y := by
    intro i hi
    have h1 := hel i hi
    rw [List.getElem?_eq_getElem (by omega), hc, Nat.mul_one, Option.bind_eq_some_iff] at h1
    obtain ⟨cs', hcs, hy⟩ := h1
    obtain ⟨y, rfl, hg⟩ := hdec _ _ _ hy
    exact ⟨y, cell_of_cells?_one hcs, hg⟩
  have hex : ∀ i, ∃ y : α, i < len → (W.cell? (a.add i) = some (f y) ∧ good y) := fun i => by
    by_cases hi : i < len
    · obtain ⟨y, hy⟩ := each i hi; exact ⟨y, fun _ => hy⟩
    · exact ⟨default, fun h => absurd h hi⟩
  have hch : ∃ g : Nat → α, ∀ i, i < len → (W.cell? (a.add i) = some (f (g i)) ∧ good (g i)) := ⟨fun i => Classical.choose (hex i), fun i => Classical.choose_spec (hex i)⟩
  obtain ⟨g, hg⟩ := hch
  have hix : ∀ i, i < len → ix ((List.range len).map g) i = g i := fun i hi => by
    rw [ix_eq _ _ (by simpa using hi)]; simp
  refine ⟨some a, len, cap, (List.range len).map g, rfl, by unfold maxLen at hm; omega, ⟨by simp, ?_⟩, ?_⟩
  · by_cases h0 : len = 0
    · exact Or.inl (by simp [h0])
    · right
      have hs : a.spot = none := by
        have := (hg 0 (by omega)).1
        simp only [Addr.add, if_true] at this
        unfold World.cell? at this
        split at this
        · split at this
          · cases this
          · rename_i hsp; simpa using hsp
        · cases this
      obtain ⟨b, off, sp⟩ := a
      simp only at hs
      subst hs
      have hadd : ∀ i, (⟨b, off, none⟩ : Addr).add i = ⟨b, off + i, none⟩ := fun i => by
        unfold Addr.add
        split
        · subst_vars; rfl
        · rfl
      refine ⟨b, off, rfl, World.block_lt_of_cell? W _ (hg 0 (by omega)).1, fun i hi => ?_⟩
      have hi' : i < len := by simpa using hi
      rw [hix i hi', ← hadd i]
      exact (hg i hi').1
  · intro y hy
    simp only [List.mem_map, List.mem_range] at hy
    obtain ⟨i, hi, rfl⟩ := hy
    exact (hg i hi).2
end

theorem trod_one {H : Type} {enc : TypeId × Value → H} {P : Program} {W : World} {r : Reach} {b0 base : Nat} {spare : Nat → Bool} {held : Bool} {t e : TypeId} {v : Value} {d : DataW H} {p : List MemPlace}
    (ht : P.underlying t = some (.slice e)) (hv : Value.okWide P W r b0 t v) (h : DataW.Trod enc P W base spare held t v d p) : ∃ fuel x, DataW.trod enc P W base spare held fuel t [v] = some x := by
  obtain ⟨a, len, cap, rfl⟩ := okWide_slice ht hv
  obtain ⟨fuel, hf⟩ := h
  exact ⟨fuel, _, hf⟩

set_option maxRecDepth 100000 in
theorem open_floats {H : Type} {enc : TypeId × Value → H} {W : World} {r : Reach} {base : Nat} {v : Value} {d : DataW H} {p : List MemPlace}
    (hv : Value.okWide Try.prog W r base 31 v) (h : DataW.Trod enc Try.prog W 0 (fun _ => true) true 31 v d p) :
    ∃ (a : Option Addr) (n cap : Nat) (xs : List Nat), v = .slice a n cap ∧ n ≤ 9223372036854775807 ∧ RdRaw W (.float .f32) a n xs ∧ ∀ y ∈ xs, y < 4294967296 := by
  obtain ⟨fuel, x, hx⟩ := trod_one Try.underlying31 hv h
  obtain ⟨a, n, cap, xs, e, h1, h2, h3⟩ := open_row (Value.float .f32) (fun y => y < 4294967296) Try.underlying31 (by kernel_rfl)
    (fun fuel cs x hx => by obtain ⟨b, hb, _, hw⟩ := DataW.trod_float Try.underlying22 hx; exact ⟨b, hb, by simpa [Lit.wf] using hw⟩) hx
  exact ⟨a, n, cap, xs, by simpa using e, h1, h2, h3⟩
set_option maxRecDepth 100000 in
theorem open_i64s {H : Type} {enc : TypeId × Value → H} {W : World} {r : Reach} {base : Nat} {v : Value} {d : DataW H} {p : List MemPlace}
    (hv : Value.okWide Try.prog W r base 38 v) (h : DataW.Trod enc Try.prog W 0 (fun _ => true) true 38 v d p) :
    ∃ (a : Option Addr) (n cap : Nat) (xs : List Int), v = .slice a n cap ∧ n ≤ 9223372036854775807 ∧ RdRaw W (.int .i64) a n xs ∧ ∀ y ∈ xs, -9223372036854775808 ≤ y ∧ y ≤ 9223372036854775807 := by
  obtain ⟨fuel, x, hx⟩ := trod_one Try.underlying38 hv h
  obtain ⟨a, n, cap, xs, e, h1, h2, h3⟩ := open_row (Value.int .i64) (fun y => -9223372036854775808 ≤ y ∧ y ≤ 9223372036854775807) Try.underlying38 (by kernel_rfl)
    (fun fuel cs x hx => by obtain ⟨b, hb, _, hw⟩ := DataW.trod_int Try.underlying2 hx; exact ⟨b, hb, bounds_i64 hw⟩) hx
  exact ⟨a, n, cap, xs, by simpa using e, h1, h2, h3⟩
set_option maxRecDepth 100000 in
theorem open_bools {H : Type} {enc : TypeId × Value → H} {W : World} {r : Reach} {base : Nat} {v : Value} {d : DataW H} {p : List MemPlace}
    (hv : Value.okWide Try.prog W r base 46 v) (h : DataW.Trod enc Try.prog W 0 (fun _ => true) true 46 v d p) :
    ∃ (a : Option Addr) (n cap : Nat) (xs : List Bool), v = .slice a n cap ∧ n ≤ 9223372036854775807 ∧ RdRaw W Value.bool a n xs := by
  obtain ⟨fuel, x, hx⟩ := trod_one Try.underlying46 hv h
  obtain ⟨a, n, cap, xs, e, h1, h2, h3⟩ := open_row Value.bool (fun _ => True) Try.underlying46 (by kernel_rfl)
    (fun fuel cs x hx => by obtain ⟨b, hb, _⟩ := DataW.trod_bool Try.underlying4 hx; exact ⟨b, hb, trivial⟩) hx
  exact ⟨a, n, cap, xs, by simpa using e, h1, h2⟩
end Go.Proofs.Ytajekmpjebhaoaa
