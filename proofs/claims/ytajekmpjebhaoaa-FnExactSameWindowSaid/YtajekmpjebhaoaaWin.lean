/- Windows as the laws take them: copies, told equal. -/
import Derived.Test.YtajekmpjebhaoaaTo
import Derived.Test.YtajekmpjebhaoaaArgS
namespace Go.Proofs.Ytajekmpjebhaoaa
open Go.ChangeShapes Go.WideShapes Go.ChangeAt Go.RowKit
set_option linter.unusedSimpArgs false
set_option linter.unusedVariables false

set_option maxHeartbeats 1000000 in
theorem toWindow_any (l p : Int) (a : Option Addr) (n c : Nat) (xs : List Int) (a' : Option Addr) (n' c' : Nat) (ys : List Int) (w : World) (h : Rd w (.int .i64) a n xs) (h' : Rd w (.int .i64) a' n' ys) :
    Calls Try.prog 28 #[.agg #[.int .i64 l, .int .i64 p, .slice a n c, .slice a' n' c']] w fun e w' => ∃ v v', e = .returned (.agg #[.int .i64 l, .int .i64 p, v, v']) ∧
      w'.ownsRow w.heap.size 2 1 v n (xs.map (Value.int .i64)) ∧ w'.ownsRow w.heap.size 2 1 v' n' (ys.map (Value.int .i64)) ∧ Below w.heap.size w w' := by
  have H := Lib.hid h
  have H' := Lib.hid h'
  clear h h'
  go_enter Try.func28, Try.ntmps28
  go_wp2_with fail; refine (toInt64S_any a n c xs _ (H.out.below (by (repeat (first | exact Below.refl _ _ | assumption | apply Below.drew | apply below_drewN' | apply below_alloc' | refine below_next ?_ (by assumption) | refine Below.setCell ?_ (by first | omega | (simp; omega) | simp) _))))).mono ?_; rintro e w' ⟨v, rfl, ho, hb⟩
  obtain ⟨hc, hf⟩ := bcell hb
  have hs : w.heap.size + 2 < w'.heap.size := by have := hb.size; simp at this; omega
  have hs1 : w.heap.size + 1 < w'.heap.size := by omega
  have hs0 : w.heap.size < w'.heap.size := by omega
  obtain ⟨a1, c1, rfl, _⟩ := own_rd ho H.out.2.1
  have ho3 := own_mono (base' := w.heap.size + 3) ho (by simp)
  have O := Lib.hid (ownsRow_setCell_below (a := ⟨w.heap.size + 1 + 1, 2, none⟩) ho3 (by simp) (.slice a1 n c1))
  clear ho3
  clear ho
  go_wp2_with fail
  refine (toInt64S_any a' n' c' ys _ (H'.out.below (by (repeat (first | exact Below.refl _ _ | assumption | apply Below.drew | apply below_drewN' | apply below_alloc' | refine below_next ?_ (by assumption) | refine Below.setCell ?_ (by first | omega | (simp; omega) | simp) _))))).mono ?_
  rintro e w2 ⟨v', rfl, ho', hb'⟩
  obtain ⟨hc', hf'⟩ := bcell hb'
  have hs' : w.heap.size + 2 < w2.heap.size := by have := hb'.size; simp at this; omega
  have hs1' : w.heap.size + 1 < w2.heap.size := by omega
  have hs0' : w.heap.size < w2.heap.size := by omega
  obtain ⟨a2, c2, rfl, _⟩ := own_rd ho' H'.out.2.1
  have ho3 := own_mono (base' := w.heap.size + 3) ho' (by simp; omega)
  have O' := Lib.hid (ownsRow_setCell_below (a := ⟨w.heap.size + 1 + 1, 3, none⟩) ho3 (by simp) (.slice a2 n' c2))
  clear ho3
  have O2 := Lib.hid (ownsRow_setCell_below (a := ⟨w.heap.size + 1 + 1, 3, none⟩) (own_below O.out hb') (by simp) (.slice a2 n' c2))
  clear ho'
  have B2 : Hid (Below w.heap.size w w2) := by show Below w.heap.size w w2; (repeat (first | exact Below.refl _ _ | assumption | apply Below.drew | apply below_drewN' | apply below_alloc' | refine below_next ?_ (by assumption) | refine Below.setCell ?_ (by first | omega | (simp; omega) | simp) _))
  have q : ((w2.cell? ⟨w.heap.size + 1 + 1, 0, none⟩ = some (.int .i64 l) ∧ w2.cell? ⟨w.heap.size + 1 + 1, 1, none⟩ = some (.int .i64 p)) ∧ (w2.cell? ⟨w.heap.size + 1 + 1, 2, none⟩ = some (.slice a1 n c1) ∧ w2.cell? ⟨w.heap.size + 1 + 1, 3, none⟩ = some (.slice none 0 0))) ∧
      ((w2.cell? ⟨w.heap.size + 1, 0, none⟩ = some (.int .i64 0) ∧ w2.cell? ⟨w.heap.size + 1, 1, none⟩ = some (.int .i64 0)) ∧ (w2.cell? ⟨w.heap.size + 1, 2, none⟩ = some (.slice none 0 0) ∧ w2.cell? ⟨w.heap.size + 1, 3, none⟩ = some (.slice none 0 0))) := by
    refine ⟨⟨⟨?_, ?_⟩, ?_, ?_⟩, ⟨?_, ?_⟩, ?_, ?_⟩ <;> go_simp
  have f1 : ∀ o, w2.frozen? ⟨w.heap.size + 1, o, none⟩ = false := fun o => by go_simp
  have f2 : ∀ o, w2.frozen? ⟨w.heap.size + 1 + 1, o, none⟩ = false := fun o => by go_simp
  obtain ⟨⟨⟨q1, q2⟩, q3, q4⟩, ⟨q5, q6⟩, q7, q8⟩ := q
  clear hc hf hc' hf' hs hs1 hs0 hs' hs1' hs0' hb hb'
  go_wp2
  refine bodyPost_ret (v := .agg #[.int .i64 l, .int .i64 p, .slice a1 n c1, .slice a2 n' c2]) (by simp [results, Try.results28, go_sem, q1, q2, q3, q4, q5, q6, q7, q8]) rfl ⟨_, _, rfl, ?_, ?_, ?_⟩
  · exact own_mono (base := w.heap.size + 3) (ownsRow_setCell_below (ownsRow_setCell_below (ownsRow_setCell_below (ownsRow_setCell_below O2.out (by simp) _) (by simp) _) (by simp) _) (by simp) _) (by omega)
  · exact own_mono (base := w.heap.size + 3) (ownsRow_setCell_below (ownsRow_setCell_below (ownsRow_setCell_below (ownsRow_setCell_below O'.out (by simp) _) (by simp) _) (by simp) _) (by simp) _) (by omega)
  · have B3 := B2.out
    (repeat (first | exact Below.refl _ _ | assumption | apply Below.drew | apply below_drewN' | apply below_alloc' | refine below_next ?_ (by assumption) | refine Below.setCell ?_ (by first | omega | (simp; omega) | simp) _))
def szI (n : Nat) (left : Int) : Int := if left - n < 0 then -1 else left - n
theorem szInt64S_any (a : Option Addr) (n c : Nat) (left : Int) (w : World) (hn : n ≤ 9223372036854775807) (h0 : 0 ≤ left) (h1 : left ≤ 1048576) :
    Calls Try.prog 74 #[.slice a n c, .int .i64 left] w fun e w' => e = .returned (.int .i64 (szI n left)) ∧ w' = w := by
  unfold szI
  by_cases h : left - n < 0
  · rw [if_pos h]
    go_enter Try.func74, Try.ntmps74
    go_wp2
    go_ret
    exact ⟨rfl, rfl⟩
  · rw [if_neg h]
    go_enter Try.func74, Try.ntmps74
    go_wp2
    go_ret
    exact ⟨rfl, rfl⟩
def szW (n n' : Nat) (left : Int) : Int := if left - n < 0 then -1 else if left - n - n' < 0 then -1 else left - n - n'
theorem szWindow_any (l p : Int) (a : Option Addr) (n c : Nat) (a' : Option Addr) (n' c' : Nat) (left : Int) (w : World) (hn : n ≤ 9223372036854775807) (hn' : n' ≤ 9223372036854775807) (h0 : 0 ≤ left) (h1 : left ≤ 1048576) :
    Calls Try.prog 26 #[.agg #[.int .i64 l, .int .i64 p, .slice a n c, .slice a' n' c'], .int .i64 left] w fun e w' => e = .returned (.int .i64 (szW n n' left)) ∧ Below w.heap.size w w' := by
  unfold szW
  by_cases h : left - n < 0
  · rw [if_pos h]
    have e1 : szI n left = -1 := by unfold szI; rw [if_pos h]
    go_enter Try.func26, Try.ntmps26
    go_wp2_with fail; refine (szInt64S_any a n c left _ hn h0 h1).mono ?_; rintro e w' ⟨rfl, rfl⟩
    go_wp2
    go_ret
    exact ⟨rfl, by (repeat (first | exact Below.refl _ _ | assumption | apply Below.drew | apply below_drewN' | apply below_alloc' | refine below_next ?_ (by assumption) | refine Below.setCell ?_ (by first | omega | (simp; omega) | simp) _))⟩
  · rw [if_neg h]
    have e1 : szI n left = left - n := by unfold szI; rw [if_neg h]
    by_cases h' : left - n - n' < 0
    · rw [if_pos h']
      have e2 : szI n' (left - n) = -1 := by unfold szI; rw [if_pos h']
      go_enter Try.func26, Try.ntmps26
      go_wp2_with fail; refine (szInt64S_any a n c left _ hn h0 h1).mono ?_; rintro e w' ⟨rfl, rfl⟩
      rw [e1]
      go_wp2_with fail; refine (szInt64S_any a' n' c' (left - n) _ hn' (by omega) (by omega)).mono ?_; rintro e w' ⟨rfl, rfl⟩
      go_wp2
      go_ret
      exact ⟨rfl, by (repeat (first | exact Below.refl _ _ | assumption | apply Below.drew | apply below_drewN' | apply below_alloc' | refine below_next ?_ (by assumption) | refine Below.setCell ?_ (by first | omega | (simp; omega) | simp) _))⟩
    · rw [if_neg h']
      have e2 : szI n' (left - n) = left - n - n' := by unfold szI; rw [if_neg h']
      go_enter Try.func26, Try.ntmps26
      go_wp2_with fail; refine (szInt64S_any a n c left _ hn h0 h1).mono ?_; rintro e w' ⟨rfl, rfl⟩
      rw [e1]
      go_wp2_with fail; refine (szInt64S_any a' n' c' (left - n) _ hn' (by omega) (by omega)).mono ?_; rintro e w' ⟨rfl, rfl⟩
      go_wp2
      go_ret
      exact ⟨rfl, by (repeat (first | exact Below.refl _ _ | assumption | apply Below.drew | apply below_drewN' | apply below_alloc' | refine below_next ?_ (by assumption) | refine Below.setCell ?_ (by first | omega | (simp; omega) | simp) _))⟩
theorem eqWindow_same (l p : Int) (a : Option Addr) (n c : Nat) (xs : List Int) (a' : Option Addr) (n' c' : Nat) (ys : List Int) (b : Option Addr) (d : Nat) (b' : Option Addr) (d' : Nat) (w : World)
    (h1 : Rd w (.int .i64) a n xs) (h2 : Rd w (.int .i64) a' n' ys) (h3 : Rd w (.int .i64) b n xs) (h4 : Rd w (.int .i64) b' n' ys) :
    Calls Try.prog 30 #[.agg #[.int .i64 l, .int .i64 p, .slice a n c, .slice a' n' c'], .agg #[.int .i64 l, .int .i64 p, .slice b n d, .slice b' n' d']] w fun e w' => e = .returned (.bool true) ∧ Below w.heap.size w w' := by
  have H1 := Lib.hid h1
  have H2 := Lib.hid h2
  have H3 := Lib.hid h3
  have H4 := Lib.hid h4
  clear h1 h2 h3 h4
  go_enter Try.func30, Try.ntmps30
  go_wp2_with fail; refine (eqInt64S_same a n c xs b d _ (H1.out.below (by (repeat (first | exact Below.refl _ _ | assumption | apply Below.drew | apply below_drewN' | apply below_alloc' | refine below_next ?_ (by assumption) | refine Below.setCell ?_ (by first | omega | (simp; omega) | simp) _)))) (H3.out.below (by (repeat (first | exact Below.refl _ _ | assumption | apply Below.drew | apply below_drewN' | apply below_alloc' | refine below_next ?_ (by assumption) | refine Below.setCell ?_ (by first | omega | (simp; omega) | simp) _))))).mono ?_; rintro e w' ⟨rfl, m, rfl⟩
  go_wp2_with fail; refine (eqInt64S_same a' n' c' ys b' d' _ (H2.out.below (by (repeat (first | exact Below.refl _ _ | assumption | apply Below.drew | apply below_drewN' | apply below_alloc' | refine below_next ?_ (by assumption) | refine Below.setCell ?_ (by first | omega | (simp; omega) | simp) _)))) (H4.out.below (by (repeat (first | exact Below.refl _ _ | assumption | apply Below.drew | apply below_drewN' | apply below_alloc' | refine below_next ?_ (by assumption) | refine Below.setCell ?_ (by first | omega | (simp; omega) | simp) _))))).mono ?_; rintro e w' ⟨rfl, m', rfl⟩
  go_wp2
  go_ret
  exact ⟨rfl, by (repeat (first | exact Below.refl _ _ | assumption | apply Below.drew | apply below_drewN' | apply below_alloc' | refine below_next ?_ (by assumption) | refine Below.setCell ?_ (by first | omega | (simp; omega) | simp) _))⟩
theorem cellsW : Try.prog.cellsOf 40 = 4 := by kernel_rfl
set_option maxRecDepth 100000 in
theorem open_Window {H : Type} {enc : TypeId × Value → H} {W : World} {r : Reach} {base : Nat} {v : Value} {d : DataW H} {p : List MemPlace}
    (hv : Value.okWide Try.prog W r base 40 v) (h : DataW.Trod enc Try.prog W 0 (fun _ => true) true 40 v d p) :
    ∃ (l q : Int) (a : Option Addr) (n c : Nat) (xs : List Int) (a' : Option Addr) (n' c' : Nat) (ys : List Int), v = .agg #[.int .i64 l, .int .i64 q, .slice a n c, .slice a' n' c'] ∧ n ≤ 9223372036854775807 ∧ n' ≤ 9223372036854775807 ∧
      RdRaw W (.int .i64) a n xs ∧ RdRaw W (.int .i64) a' n' ys ∧ (-9223372036854775808 ≤ l ∧ l ≤ 9223372036854775807) ∧ (-9223372036854775808 ≤ q ∧ q ≤ 9223372036854775807) ∧ (∀ y ∈ xs, -9223372036854775808 ≤ y ∧ y ≤ 9223372036854775807) ∧ (∀ y ∈ ys, -9223372036854775808 ≤ y ∧ y ≤ 9223372036854775807) := by
  obtain ⟨c0, c1, c2, c3, y0, y1, y2, y3, m, rfl, rfl, rfl, hy0, hy1, hy2, hy3⟩ := Joins.open_agg4 Try.underlying40 (by kernel_rfl) cellsW hv h
  obtain ⟨l, e0, rfl, w0⟩ := DataW.trod_int Try.underlying2 hy0
  obtain ⟨q, e1, rfl, w1⟩ := DataW.trod_int Try.underlying2 hy1
  have hdec : ∀ fuel cs x, DataW.trod enc Try.prog W 0 (fun _ => true) true fuel 2 cs = some x → ∃ y, cs = [Value.int .i64 y] ∧ (-9223372036854775808 ≤ y ∧ y ≤ 9223372036854775807) := fun fuel cs x hx => by
    obtain ⟨b, hb, _, hw⟩ := DataW.trod_int Try.underlying2 hx; exact ⟨b, hb, bounds_i64 hw⟩
  obtain ⟨a, n, c, xs, e2, h1, h2, h3⟩ := open_row (Value.int .i64) _ Try.underlying38 (by kernel_rfl) hdec hy2
  obtain ⟨a', n', c', ys, e3, h1', h2', h3'⟩ := open_row (Value.int .i64) _ Try.underlying38 (by kernel_rfl) hdec hy3
  simp at e0 e1 e2 e3
  subst e0 e1 e2 e3
  exact ⟨l, q, a, n, c, xs, a', n', c', ys, rfl, h1, h1', h2, h2', bounds_i64 w0, bounds_i64 w1, h3, h3'⟩
end Go.Proofs.Ytajekmpjebhaoaa
