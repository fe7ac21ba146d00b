/- SameWindow. -/
import Derived.Test.YtajekmpjebhaoaaWin
import Derived.Test.YtajekmpjebhaoaaEqI
namespace Go.Proofs.Ytajekmpjebhaoaa
open Go.RowKit
set_option linter.unusedSimpArgs false
set_option linter.unusedVariables false

def swin (l p : Int) (xs ys : List Int) (l' p' : Int) (xs' ys' : List Int) : Bool := (l == l') && (p == p') && decide (xs = xs') && decide (ys = ys')

set_option maxHeartbeats 2000000 in
theorem l06Same_any (B B' : Nat) (l p : Int) (a : Option Addr) (n c : Nat) (xs : List Int) (b : Option Addr) (m d : Nat) (ys : List Int) (l' p' : Int) (a' : Option Addr) (n' c' : Nat) (xs' : List Int) (b' : Option Addr) (m' d' : Nat) (ys' : List Int) (w : World)
    (q0 : w.cell? ⟨B, 0, none⟩ = some (.int .i64 l)) (q1 : w.cell? ⟨B, 1, none⟩ = some (.int .i64 p)) (q2 : w.cell? ⟨B, 2, none⟩ = some (.slice a n c)) (q3 : w.cell? ⟨B, 3, none⟩ = some (.slice b m d))
    (r0 : w.cell? ⟨B', 0, none⟩ = some (.int .i64 l')) (r1 : w.cell? ⟨B', 1, none⟩ = some (.int .i64 p')) (r2 : w.cell? ⟨B', 2, none⟩ = some (.slice a' n' c')) (r3 : w.cell? ⟨B', 3, none⟩ = some (.slice b' m' d'))
    (h1 : Rd w (.int .i64) a n xs) (h2 : Rd w (.int .i64) b m ys) (h3 : Rd w (.int .i64) a' n' xs') (h4 : Rd w (.int .i64) b' m' ys') :
    Calls Try.prog 75 #[.pointer (some ⟨B, 0, none⟩), .pointer (some ⟨B', 0, none⟩)] w fun e w' => e = .returned (.bool (swin l p xs ys l' p' xs' ys')) ∧ ∃ k, w' = w.drewN k := by
  have H1 := Lib.hid h1
  have H2 := Lib.hid h2
  have H3 := Lib.hid h3
  have H4 := Lib.hid h4
  clear h1 h2 h3 h4
  unfold swin
  have HE1 : Hid (∀ k, Calls Try.prog 127 #[.slice a n c, .slice a' n' c'] (w.drewN k) fun e w' => e = .returned (.bool (decide (xs = xs'))) ∧ ∃ m, w' = (w.drewN k).drewN m) := fun k => l06Equal_any a n c xs a' n' c' xs' _ (H1.out.drewN _) (H3.out.drewN _)
  have HE2 : Hid (∀ k, Calls Try.prog 127 #[.slice b m d, .slice b' m' d'] (w.drewN k) fun e w' => e = .returned (.bool (decide (ys = ys'))) ∧ ∃ m, w' = (w.drewN k).drewN m) := fun k => l06Equal_any b m d ys b' m' d' ys' _ (H2.out.drewN _) (H4.out.drewN _)
  generalize decide (xs = xs') = b3 at *
  generalize decide (ys = ys') = b4 at *
  clear H1 H2 H3 H4
  cases e1 : (l == l') <;> cases e2 : (p == p') <;> cases b3
  all_goals
    go_enter Try.func75, Try.ntmps75
    go_wp2_with fail
    go_quiet (first | ((go_at_call 127; with_reducible exact Calls.quiet_of (HE1.out _))) | ((go_at_call 127; with_reducible exact Calls.quiet_of (HE2.out _))))
    go_wp2
    go_ret
    exact ⟨by simp, _, rfl⟩
theorem sSameWindow_any (l p : Int) (a : Option Addr) (n c : Nat) (xs : List Int) (b : Option Addr) (m d : Nat) (ys : List Int) (l' p' : Int) (a' : Option Addr) (n' c' : Nat) (xs' : List Int) (b' : Option Addr) (m' d' : Nat) (ys' : List Int) (w : World)
    (h1 : Rd w (.int .i64) a n xs) (h2 : Rd w (.int .i64) b m ys) (h3 : Rd w (.int .i64) a' n' xs') (h4 : Rd w (.int .i64) b' m' ys') :
    Calls Try.prog 27 #[.agg #[.int .i64 l, .int .i64 p, .slice a n c, .slice b m d], .agg #[.int .i64 l', .int .i64 p', .slice a' n' c', .slice b' m' d']] w fun e w' => e = .returned (.bool (swin l p xs ys l' p' xs' ys')) ∧ Below w.heap.size w w' := by
  have H1 := Lib.hid h1
  have H2 := Lib.hid h2
  have H3 := Lib.hid h3
  have H4 := Lib.hid h4
  clear h1 h2 h3 h4
  go_enter Try.func27, Try.ntmps27
  go_wp2_with fail
  refine (l06Same_any _ _ l p a n c xs b m d ys l' p' a' n' c' xs' b' m' d' ys' _ (by go_simp) (by go_simp) (by go_simp) (by go_simp) (by go_simp) (by go_simp) (by go_simp) (by go_simp) (H1.out.below (by (repeat (first | exact Below.refl _ _ | assumption | apply Below.drew | apply below_drewN' | apply below_alloc' | refine below_next ?_ (by assumption) | refine Below.setCell ?_ (by first | omega | (simp; omega) | simp) _)))) (H2.out.below (by (repeat (first | exact Below.refl _ _ | assumption | apply Below.drew | apply below_drewN' | apply below_alloc' | refine below_next ?_ (by assumption) | refine Below.setCell ?_ (by first | omega | (simp; omega) | simp) _)))) (H3.out.below (by (repeat (first | exact Below.refl _ _ | assumption | apply Below.drew | apply below_drewN' | apply below_alloc' | refine below_next ?_ (by assumption) | refine Below.setCell ?_ (by first | omega | (simp; omega) | simp) _)))) (H4.out.below (by (repeat (first | exact Below.refl _ _ | assumption | apply Below.drew | apply below_drewN' | apply below_alloc' | refine below_next ?_ (by assumption) | refine Below.setCell ?_ (by first | omega | (simp; omega) | simp) _))))).mono ?_
  rintro e w' ⟨rfl, k, rfl⟩
  go_wp2
  go_ret
  exact ⟨rfl, by (repeat (first | exact Below.refl _ _ | assumption | apply Below.drew | apply below_drewN' | apply below_alloc' | refine below_next ?_ (by assumption) | refine Below.setCell ?_ (by first | omega | (simp; omega) | simp) _))⟩

set_option maxHeartbeats 2000000 in
theorem iSameWindow_any (l p : Int) (a : Option Addr) (n c : Nat) (xs : List Int) (b : Option Addr) (m d : Nat) (ys : List Int) (l' p' : Int) (a' : Option Addr) (n' c' : Nat) (xs' : List Int) (b' : Option Addr) (m' d' : Nat) (ys' : List Int) (w : World)
    (h1 : Rd w (.int .i64) a n xs) (h2 : Rd w (.int .i64) b m ys) (h3 : Rd w (.int .i64) a' n' xs') (h4 : Rd w (.int .i64) b' m' ys') :
    Calls Try.prog 29 #[.agg #[.int .i64 l, .int .i64 p, .slice a n c, .slice b m d], .agg #[.int .i64 l', .int .i64 p', .slice a' n' c', .slice b' m' d']] w fun e w' => e = .returned (.bool (swin l p xs ys l' p' xs' ys')) ∧ Below w.heap.size w w' := by
  have H1 := Lib.hid h1
  have H2 := Lib.hid h2
  have H3 := Lib.hid h3
  have H4 := Lib.hid h4
  clear h1 h2 h3 h4
  unfold swin
  have HE1 : Hid (∀ wx, Below w.heap.size w wx → Calls Try.prog 76 #[.slice a n c, .slice a' n' c'] wx fun e w' => e = .returned (.bool (decide (xs = xs'))) ∧ ∃ m, w' = wx.drewN m) := fun wx hb => sEqual_any a n c xs a' n' c' xs' _ (H1.out.below hb) (H3.out.below hb)
  have HE2 : Hid (∀ wx, Below w.heap.size w wx → Calls Try.prog 76 #[.slice b m d, .slice b' m' d'] wx fun e w' => e = .returned (.bool (decide (ys = ys'))) ∧ ∃ m, w' = wx.drewN m) := fun wx hb => sEqual_any b m d ys b' m' d' ys' _ (H2.out.below hb) (H4.out.below hb)
  generalize decide (xs = xs') = b3 at *
  generalize decide (ys = ys') = b4 at *
  clear H1 H2 H3 H4
  cases e1 : (l == l') <;> cases e2 : (p == p') <;> cases b3
  all_goals
    go_enter Try.func29, Try.ntmps29
    go_wp2_with (first | (go_at_call 76; (with_reducible refine (HE1.out _ (by (repeat (first | exact Below.refl _ _ | assumption | apply Below.drew | apply below_drewN' | apply below_alloc' | refine below_next ?_ (by assumption) | refine Below.setCell ?_ (by first | omega | (simp; omega) | simp) _)))).mono ?_); rintro e w' ⟨rfl, k, rfl⟩) | (go_at_call 76; (with_reducible refine (HE2.out _ (by (repeat (first | exact Below.refl _ _ | assumption | apply Below.drew | apply below_drewN' | apply below_alloc' | refine below_next ?_ (by assumption) | refine Below.setCell ?_ (by first | omega | (simp; omega) | simp) _)))).mono ?_); rintro e w' ⟨rfl, k, rfl⟩))
    go_ret
    exact ⟨by simp, by (repeat (first | exact Below.refl _ _ | assumption | apply Below.drew | apply below_drewN' | apply below_alloc' | refine below_next ?_ (by assumption) | refine Below.setCell ?_ (by first | omega | (simp; omega) | simp) _))⟩
end Go.Proofs.Ytajekmpjebhaoaa
