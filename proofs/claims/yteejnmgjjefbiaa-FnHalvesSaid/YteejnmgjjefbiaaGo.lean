/- Stable sorting of elements of two cells: what is read and written. -/
import Derived.Test.YteejnmgjjefbiaaSo
namespace Go.Proofs.Yteejnmgjjefbiaa
open Go.RowKit
set_option linter.unusedSimpArgs false
set_option linter.unusedVariables false
set_option linter.unusedSectionVars false
set_option maxRecDepth 100000

structure CmpW {α : Type} (F : α → List LV) (cf : α → α → Int) (key : α → Int) (g : FuncId) (caps : List LV) : Prop where
  call : ∀ (x y : α) (H : Hp), FunH Try.prog g (.agg (F x) :: .agg (F y) :: caps) H fun r H' => r = .int .i64 (cf x y) ∧ H' = H
  neg : ∀ x y, cf x y < 0 ↔ key x < key y
  len : ∀ x, (F x).length = 2
  cells : ∀ x, (F x).all LV.isCell = true
section
variable {α : Type} [Inhabited α]
def fl (F : α → List LV) (D : List α) : List LV := D.flatMap F
theorem fl_cons (F : α → List LV) (a : α) (D : List α) : fl F (a :: D) = F a ++ fl F D := rfl
theorem fl_app (F : α → List LV) (D E : List α) : fl F (D ++ E) = fl F D ++ fl F E := by unfold fl; rw [List.flatMap_append]
theorem fl_len {F : α → List LV} (h : ∀ x, (F x).length = 2) (D : List α) : (fl F D).length = 2 * D.length := by
  induction D with
  | nil => rfl
  | cons a D ih => rw [fl_cons, List.length_append, h, ih, List.length_cons]; omega
theorem drop_two {β : Type} {X Y : List β} (hx : X.length = 2) (k : Nat) : (X ++ Y).drop ((k + 1) * 2) = Y.drop (k * 2) := by
  rw [List.drop_append, List.drop_of_length_le (by omega), List.nil_append]; congr 1; omega
theorem wget {F : α → List LV} (h : ∀ x, (F x).length = 2) (D : List α) {k : Nat} (hk : k < D.length) : ((fl F D).drop (k * 2)).take 2 = F (ix D k) := by
  induction D generalizing k with
  | nil => exact absurd hk (Nat.not_lt_zero _)
  | cons a D ih =>
    rw [fl_cons]
    cases k with
    | zero => rw [Nat.zero_mul, List.drop_zero, List.take_left' (h a)]; rfl
    | succ k =>
      rw [drop_two (h a) k, ih (by simpa using hk)]; rfl
theorem sets_two {cs X : List LV} {off : Nat} (h : X.length = 2) (h2 : off + 2 ≤ cs.length) : sets cs off X = cs.take off ++ X ++ cs.drop (off + 2) := by
  match X, h with
  | [x, y], _ =>
    have e : sets cs off [x, y] = (cs.set off x).set (off + 1) y := rfl
    rw [e]
    refine List.ext_getElem? fun i => ?_
    rw [List.append_assoc]
    by_cases h1 : i < off
    · rw [List.getElem?_set_ne (by omega), List.getElem?_set_ne (by omega), List.getElem?_append_left (by rw [List.length_take]; omega), List.getElem?_take_of_lt h1]
    · rw [List.getElem?_append_right (by rw [List.length_take]; omega), List.length_take, show min off cs.length = off by omega]
      by_cases h3 : i = off
      · subst h3; rw [List.getElem?_set_ne (by omega), List.getElem?_set_self (by omega), Nat.sub_self]; rfl
      · by_cases h4 : i = off + 1
        · subst h4; rw [List.getElem?_set_self (by rw [List.length_set]; omega), show off + 1 - off = 1 by omega]; rfl
        · rw [List.getElem?_set_ne (by omega), List.getElem?_set_ne (by omega), List.getElem?_append_right (by simp; omega), List.getElem?_drop]
          congr 1; simp; omega
theorem wput {F : α → List LV} (h : ∀ x, (F x).length = 2) (D : List α) (x : α) {k : Nat} (hk : k < D.length) : sets (fl F D) (k * 2) (F x) = fl F (D.set k x) := by
  rw [sets_two (h x) (by rw [fl_len h]; omega)]
  induction D generalizing k with
  | nil => exact absurd hk (Nat.not_lt_zero _)
  | cons a D ih =>
    rw [fl_cons]
    cases k with
    | zero =>
      show [] ++ F x ++ _ = F x ++ fl F D
      rw [List.nil_append, List.drop_append_of_le_length (by rw [h]; omega), List.drop_of_length_le (by rw [h]; omega), List.nil_append]
    | succ k =>
      show _ = F a ++ fl F (D.set k x)
      rw [← ih (by simpa using hk), List.take_append, List.take_of_length_le (by rw [h]; omega), show (k + 1) * 2 - (F a).length = k * 2 by rw [h]; omega,
        List.drop_append, List.drop_of_length_le (by rw [h]; omega), List.nil_append, show (k + 1) * 2 + 2 - (F a).length = k * 2 + 2 by rw [h]; omega]
      simp only [List.append_assoc]
theorem wset {F : α → List LV} (h : ∀ x, (F x).length = 2) (D : List α) {p q : Nat} (hp : p < D.length) (hq : q < D.length) : sets (sets (fl F D) (p * 2) (F (ix D q))) (q * 2) (F (ix D p)) = fl F (swp D p q) := by
  rw [wput h D _ hp, wput h _ _ (by rw [List.length_set]; exact hq)]; rfl
theorem sets_len (cs X : List LV) (off : Nat) : (sets cs off X).length = cs.length := by
  induction X generalizing cs off with
  | nil => rfl
  | cons x X ih => show (sets (cs.set off x) (off + 1) X).length = _; rw [ih, List.length_set]
theorem hputW {F : α → List LV} (h : ∀ x, (F x).length = 2) {H : Hp} {id ver el n : Nat} (hid : id < H.length) {D : List α} (hD : D.length = n) (k : Nat) (hk : k < n) (x : α) :
    hput (H.set id ⟨ver, false, el, 2, fl F D⟩) id ver (k * 2) (F x) = some (H.set id ⟨ver, false, el, 2, fl F (D.set k x)⟩) := by
  rw [hput_setS hid (by rw [h, fl_len h]; omega), wput h D x (by omega)]
theorem hput2W {F : α → List LV} (h : ∀ x, (F x).length = 2) {H : Hp} {id ver el n : Nat} (hid : id < H.length) {D : List α} (hD : D.length = n) (p q : Nat) (hp : p < n) (hq : q < n) :
    hput (H.set id ⟨ver, false, el, 2, fl F D⟩) id ver (p * 2) (F (ix D q)) = some (H.set id ⟨ver, false, el, 2, fl F (D.set p (ix D q))⟩) ∧
    hput (H.set id ⟨ver, false, el, 2, fl F (D.set p (ix D q))⟩) id ver (q * 2) (F (ix D p)) = some (H.set id ⟨ver, false, el, 2, fl F (swp D p q)⟩) :=
  ⟨hputW h hid hD p hp _, hputW h hid (by rw [List.length_set]; exact hD) q hq _⟩
theorem hgetsW {F : α → List LV} (h : ∀ x, (F x).length = 2) {H : Hp} {id ver el : Nat} (hid : id < H.length) (D : List α) (k : Nat) (hk : k < D.length) :
    hgets (H.set id ⟨ver, false, el, 2, fl F D⟩) id ver (k * 2) 2 = some (F (ix D k)) := by
  rw [hgets_setS hid (by rw [fl_len h]; omega), wget h D hk]
end
end Go.Proofs.Yteejnmgjjefbiaa
