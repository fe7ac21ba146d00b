/- Times in ascending order; numbers within bounds. -/
import Derived.Test.YtajekmpjebhaoaaIn
import Derived.Test.YtajekmpjebhaoaaIdx
namespace Go.Proofs.Ytajekmpjebhaoaa
open Go.RowKit
set_option linter.unusedSimpArgs false
set_option linter.unusedVariables false

theorem inB_iff' (n lo hi : Int) : inB n lo hi = true ↔ lo ≤ n ∧ n ≤ hi := by unfold inB; simp

def tB (xs : List Int) (k : Nat) : Bool := inB (ix xs k) 0 1000000 && !(decide (0 < k) && decide (ix xs k < ix xs (k - 1)))
/-- None is less than the one before. -/
def sortedB (xs : List Int) : Bool := (List.range xs.length).all fun k => !(decide (0 < k) && decide (ix xs k < ix xs (k - 1)))
def timesB (xs : List Int) : Bool := xs.all (inB · 0 1000000) && sortedB xs

theorem sortedB_iff (xs : List Int) : sortedB xs = true ↔ ∀ k, k < xs.length → 0 < k → ix xs (k - 1) ≤ ix xs k := by
  unfold sortedB
  rw [List.all_eq_true]
  constructor
  · intro h k hk h0
    have := h k (List.mem_range.2 hk)
    simp [h0] at this
    exact this
  · intro h k hk
    have := h k (List.mem_range.1 hk)
    by_cases h0 : 0 < k
    · simp [h0]; exact this h0
    · simp [h0]

theorem timesB_iff (xs : List Int) : timesB xs = true ↔ ∀ k, k < xs.length → tB xs k = true := by
  unfold timesB tB
  rw [Bool.and_eq_true, all_ix, sortedB_iff]
  constructor
  · rintro ⟨h1, h2⟩ k hk
    rw [h1 k hk]
    by_cases h0 : 0 < k
    · have := h2 k hk h0; simp [h0]; omega
    · simp [h0]
  · intro h
    refine ⟨fun j hj => ?_, fun k hk h0 => ?_⟩
    · have := h j hj; rw [Bool.and_eq_true] at this; exact this.1
    · have := h k hk; rw [Bool.and_eq_true] at this; have := this.2; simp [h0] at this; exact this

theorem timesB_false (xs : List Int) (k : Nat) (hk : k < xs.length) (h : tB xs k = false) : timesB xs = false := by
  cases e : timesB xs
  · rfl
  · rw [(timesB_iff xs).1 e k hk] at h; cases h

set_option maxHeartbeats 2000000 in
theorem l06Times_any (a : Option Addr) (n cap : Nat) (xs : List Int) (w : World) (h : Rd w (.int .i64) a n xs) :
    Calls Try.prog 77 #[.slice a n cap] w fun e w' => e = .returned (.bool (timesB xs && inB xs.length 1 128)) ∧ ∃ m, w' = w.drewN m := by
  obtain ⟨rfl, hm, hr⟩ := h
  go_enter Try.func77, Try.ntmps77
  go_wp2
  go_loopw [3] (fun i wr => ∃ k : Nat, k ≤ xs.length ∧ i = .int .i64 k ∧ Hid (∀ j, j < k → tB xs j = true) ∧ ∃ m, wr = w.drewN m) (fun i _ => xs.length - (intOf i).toNat)
  case atStart => exact ⟨0, Nat.zero_le _, rfl, (fun j hj => by omega), 0, rfl⟩
  case round =>
    obtain ⟨k, hk, rfl, hall, hw⟩ := hrel
    have HW := Lib.hid hw
    by_cases hlt : k < xs.length
    · rcases hr with rfl | ⟨b, off, rfl, hb, hc⟩
      · simp at hlt
      have hcell := (drw_cell hw _).trans (hc k hlt)
      have hcell' : 0 < k → wr.cell? ⟨b, off + (k - 1), none⟩ = some (.int .i64 (ix xs (k - 1))) := fun h => (drw_cell hw _).trans (hc (k - 1) (by omega))
      clear hc hw
      have HT : Hid (∀ b1 b2 b3, inB (ix xs k) 0 1000000 = b1 → decide (0 < k) = b2 → decide (ix xs k < ix xs (k - 1)) = b3 → tB xs k = (b1 && !(b2 && b3))) := fun b1 b2 b3 h1 h2 h3 => by unfold tB; rw [h1, h2, h3]
      cases e1 : inB (ix xs k) 0 1000000
      · have HE := Lib.hid (HT.out _ _ _ e1 rfl rfl)
        go_wp2_with fail
        go_quiet ((go_at_call 78; refine Calls.quiet_of_same (l06Time_any _ _)))
        go_wp2
        go_ret
        refine ⟨?_, drw_step HW.out _⟩
        rw [timesB_false xs k hlt HE.out]; rfl
      · by_cases h0 : 0 < k
        · have g0 := hcell' h0
          have d0 : decide ((0 : Int) < (k : Int)) = true := by simp; omega
          clear hcell'
          cases e3 : decide (ix xs k < ix xs (k - 1))
          · have HE := Lib.hid (HT.out _ _ _ e1 (decide_eq_true h0) e3)
            go_wp2_with fail
            go_quiet ((go_at_call 78; refine Calls.quiet_of_same (l06Time_any _ _)))
            go_wp2
            go_roundw
            case rel => exact ⟨k + 1, by omega, by go_num, (fun j hj => by rcases Nat.lt_succ_iff_lt_or_eq.1 hj with h | rfl; exact hall.out j h; exact HE.out), drw_step HW.out _⟩
            case measure => simp [intOf]; omega
          · have HE := Lib.hid (HT.out _ _ _ e1 (decide_eq_true h0) e3)
            go_wp2_with fail
            go_quiet ((go_at_call 78; refine Calls.quiet_of_same (l06Time_any _ _)))
            go_wp2
            go_ret
            refine ⟨?_, drw_step HW.out _⟩
            rw [timesB_false xs k hlt HE.out]; rfl
        · have d0 : decide ((0 : Int) < (k : Int)) = false := by simp; omega
          have HE := Lib.hid (HT.out _ _ _ e1 (decide_eq_false h0) rfl)
          clear hcell'
          go_wp2_with fail
          go_quiet ((go_at_call 78; refine Calls.quiet_of_same (l06Time_any _ _)))
          go_wp2
          go_roundw
          case rel => exact ⟨k + 1, by omega, by go_num, (fun j hj => by rcases Nat.lt_succ_iff_lt_or_eq.1 hj with h | rfl; exact hall.out j h; exact HE.out), drw_step HW.out _⟩
          case measure => simp [intOf]; omega
    · have HE : Hid (timesB xs = true) := (timesB_iff xs).2 (fun j hj => hall.out j (by omega))
      clear hw
      go_wp2
      all_goals go_ret
      all_goals (refine ⟨?_, HW.out⟩; rw [HE.out]; refine congrArg (fun b => Ending.returned (Value.bool b)) ?_; unfold inB; rw [Bool.eq_iff_iff]; simp; try omega)
theorem areWithin1_any (n lo hi : Int) (B B' : Nat) (w : World) (h1 : w.cell? ⟨B, 0, none⟩ = some (.int .i64 lo)) (h2 : w.cell? ⟨B', 0, none⟩ = some (.int .i64 hi)) :
    Calls Try.prog 138 #[.int .i64 n, .pointer (some ⟨B, 0, none⟩), .pointer (some ⟨B', 0, none⟩)] w fun e w' => e = .returned (.bool (!inB n lo hi)) ∧ ∃ m, w' = w.drewN m := by
  go_enter Try.func138, Try.ntmps138
  go_wp2_with fail
  try go_quiet ((go_at_call 82; refine Calls.quiet_of_same (within_any _ _ _ _)))
  go_wp2_with (go_at_call 82; refine (within_any _ _ _ _).mono ?_; rintro e w' ⟨rfl, hsame⟩; obtain rfl := hsame.symm)
  go_ret
  first | exact ⟨rfl, 0, rfl⟩ | exact ⟨rfl, _, rfl⟩

theorem areWithin1_hp (lo hi : Int) (B B' : Nat) (w : World) (h1 : w.cell? ⟨B, 0, none⟩ = some (.int .i64 lo)) (h2 : w.cell? ⟨B', 0, none⟩ = some (.int .i64 hi)) (x : Int) (m : Nat) :
    Calls Try.prog 138 (#[Value.int .i64 x] ++ #[Value.pointer (some ⟨B, 0, none⟩), Value.pointer (some ⟨B', 0, none⟩)]) (w.drewN m) fun e w' => e = .returned (.bool (!inB x lo hi)) ∧ ∃ m, w' = w.drewN m :=
  (areWithin1_any x lo hi B B' (w.drewN m) h1 h2).mono fun e w' h => ⟨h.1, drw_trans ⟨m, rfl⟩ h.2⟩

theorem areWithin_any (a : Option Addr) (n cap : Nat) (xs : List Int) (lo hi : Int) (w : World) (h : Rd w (.int .i64) a n xs) :
    Calls Try.prog 98 #[.slice a n cap, .int .i64 lo, .int .i64 hi] w fun e w' => e = .returned (.bool (xs.all (inB · lo hi))) ∧ Below w.heap.size w w' := by
  have HH := Lib.hid h
  clear h
  have H0 := any_not (inB · lo hi) xs
  go_enter Try.func98, Try.ntmps98
  go_wp2_with fail
  refine (ContainsFunc_int64 a n cap xs _ _ (fun x => !inB x lo hi) _ (HH.out.below (by (repeat (first | exact Below.refl _ _ | assumption | apply Below.drew | apply below_drewN' | apply below_alloc' | refine below_next ?_ (by assumption) | refine Below.setCell ?_ (by first | omega | (simp; omega) | simp) _)))) (enter_of Try.func138 (by kernel_rfl) rfl) (areWithin1_hp lo hi _ _ _ (by go_simp) (by go_simp))).mono ?_
  rintro e w' ⟨rfl, m', rfl⟩
  go_wp2
  go_ret
  exact ⟨by rw [← H0]; rfl, by (repeat (first | exact Below.refl _ _ | assumption | apply Below.drew | apply below_drewN' | apply below_alloc' | refine below_next ?_ (by assumption) | refine Below.setCell ?_ (by first | omega | (simp; omega) | simp) _))⟩
theorem isNaN_int64 (x : Int) (w : World) : Calls Try.prog 160 #[.int .i64 x] w fun e w' => e = .returned (.bool false) ∧ w' = w := by
  have h : (x != x) = false := by simp
  go_enter Try.func160, Try.ntmps160
  go_wp2
  go_ret
  exact ⟨rfl, rfl⟩
theorem Less_int64 (x y : Int) (w : World) : Calls Try.prog 153 #[.int .i64 x, .int .i64 y] w fun e w' => e = .returned (.bool (decide (x < y))) ∧ w' = w := by
  go_enter Try.func153, Try.ntmps153
  go_wp2_with (go_at_call 160; refine (isNaN_int64 _ _).mono ?_; rintro e w' ⟨rfl, hsame⟩; obtain rfl := hsame.symm)
  go_ret
  exact ⟨rfl, rfl⟩
theorem sortedB_false (xs : List Int) (k : Nat) (hk : k < xs.length) (h0 : 0 < k) (h : decide (ix xs k < ix xs (k - 1)) = true) : sortedB xs = false := by
  cases e : sortedB xs
  · rfl
  · have := (sortedB_iff xs).1 e k hk h0
    simp at h; omega

set_option maxHeartbeats 1000000 in
theorem IsSorted_int64 (a : Option Addr) (n cap : Nat) (xs : List Int) (w : World) (h : Rd w (.int .i64) a n xs) :
    Calls Try.prog 128 #[.slice a n cap] w fun e w' => e = .returned (.bool (sortedB xs)) ∧ ∃ m, w' = w.drewN m := by
  obtain ⟨rfl, hm, hr⟩ := h
  rcases Nat.eq_zero_or_pos xs.length with hz | hz
  · have : xs = [] := List.eq_nil_of_length_eq_zero hz
    subst this
    clear hr hm hz
    go_enter Try.func128, Try.ntmps128
    go_wp2
    refine wp_loop_rounds 1 ?_
    rw [rounds_succ]
    go_wp2
    go_ret
    exact ⟨rfl, 0, rfl⟩
  · go_enter Try.func128, Try.ntmps128
    go_wp2
    go_loopw [3] (fun i wr => ∃ k : Nat, k < xs.length ∧ i = .int .i64 k ∧ Hid (∀ j, k < j → j < xs.length → ix xs (j - 1) ≤ ix xs j) ∧ ∃ m, wr = w.drewN m) (fun i _ => (intOf i).toNat)
    case atStart => exact ⟨xs.length - 1, by omega, congrArg (Value.int .i64) (by omega), (fun j h1 h2 => by omega), 0, rfl⟩
    case round =>
      obtain ⟨k, hk, rfl, hall, hw⟩ := hrel
      have HW := Lib.hid hw
      rcases hr with rfl | ⟨b, off, rfl, hb, hc⟩
      · simp at hk
      by_cases h0 : 0 < k
      · have hcell := (drw_cell hw _).trans (hc k hk)
        have hcell' := (drw_cell hw _).trans (hc (k - 1) (by omega))
        clear hc hw
        by_cases e3 : ix xs k < ix xs (k - 1)
        · have HE := Lib.hid (sortedB_false xs k hk h0 (decide_eq_true e3))
          go_wp2_with fail
          go_quiet ((go_at_call 153; refine Calls.quiet_of_same (Less_int64 _ _ _)))
          go_wp2
          go_ret
          exact ⟨by rw [HE.out]; rfl, drw_step HW.out _⟩
        · have HE := Lib.hid e3
          go_wp2_with fail
          go_quiet ((go_at_call 153; refine Calls.quiet_of_same (Less_int64 _ _ _)))
          go_wp2
          refine ⟨⟨k - 1, by omega, congrArg (Value.int .i64) (by omega), (fun j h1 h2 => ?_), drw_step HW.out _⟩, by simp [intOf]; omega⟩
          by_cases hj : j = k
          · subst hj; have := HE.out; omega
          · exact hall.out j (by omega) h2
      · have HE : Hid (sortedB xs = true) := (sortedB_iff xs).2 (fun j h1 h2 => hall.out j (by omega) h1)
        clear hc hw
        go_wp2
        go_ret
        exact ⟨by rw [HE.out]; rfl, HW.out⟩
theorem areTimes_any (a : Option Addr) (n cap : Nat) (xs : List Int) (w : World) (h : Rd w (.int .i64) a n xs) :
    Calls Try.prog 81 #[.slice a n cap] w fun e w' => e = .returned (.bool (timesB xs)) ∧ Below w.heap.size w w' := by
  have HH := Lib.hid h
  clear h
  unfold timesB
  cases e1 : xs.all (inB · 0 1000000)
  all_goals
    go_enter Try.func81, Try.ntmps81
    go_wp2_with (first | (go_at_call 98; refine (areWithin_any a n cap xs 0 1000000 _ HH.out).mono ?_; rintro e w' ⟨rfl, hb⟩) | (go_at_call 128; refine (IsSorted_int64 a n cap xs _ (HH.out.below (by (repeat (first | exact Below.refl _ _ | assumption | apply Below.drew | apply below_drewN' | apply below_alloc' | refine below_next ?_ (by assumption) | refine Below.setCell ?_ (by first | omega | (simp; omega) | simp) _))))).mono ?_; rintro e w' ⟨rfl, m, rfl⟩))
    go_ret
    exact ⟨by simp, by (repeat (first | exact Below.refl _ _ | assumption | apply Below.drew | apply below_drewN' | apply below_alloc' | refine below_next ?_ (by assumption) | refine Below.setCell ?_ (by first | omega | (simp; omega) | simp) _))⟩
theorem isStream_any (n : Int) (w : World) : Calls Try.prog 80 #[.int .i64 n] w fun e w' => e = .returned (.bool (inB n 1 128)) ∧ w' = w := by
  go_enter Try.func80, Try.ntmps80
  go_wp2
  all_goals go_ret
  all_goals (unfold inB; simp; try omega)
end Go.Proofs.Ytajekmpjebhaoaa
