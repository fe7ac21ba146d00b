/- Lists of integers, told equal. -/
import Derived.Test.YtajekmpjebhaoaaSl
namespace Go.Proofs.Ytajekmpjebhaoaa
open Go.RowKit
set_option linter.unusedSimpArgs false
set_option linter.unusedVariables false

theorem ext_ix {α : Type} [Inhabited α] {xs ys : List α} (hl : xs.length = ys.length) (h : ∀ j, j < xs.length → ix xs j = ix ys j) : xs = ys :=
  List.ext_getElem hl fun i h1 h2 => by rw [← ix_eq xs i h1, ← ix_eq ys i h2]; exact h i h1

set_option maxHeartbeats 1000000 in
theorem l06Equal_any (a : Option Addr) (n cap : Nat) (xs : List Int) (a' : Option Addr) (n' cap' : Nat) (ys : List Int) (w : World) (h : Rd w (.int .i64) a n xs) (h' : Rd w (.int .i64) a' n' ys) :
    Calls Try.prog 127 #[.slice a n cap, .slice a' n' cap'] w fun e w' => e = .returned (.bool (decide (xs = ys))) ∧ ∃ m, w' = w.drewN m := by
  obtain ⟨rfl, hm, hr⟩ := h
  obtain ⟨rfl, hm', hr'⟩ := h'
  by_cases hl : xs.length = ys.length
  · have HL := Lib.hid hl
    have hb1 : (((xs.length : Nat) : Int) != ((ys.length : Nat) : Int)) = false := by simp [hl]
    clear hl
    go_enter Try.func127, Try.ntmps127
    go_wp2
    go_loopw [5] (fun i wr => ∃ k : Nat, k ≤ xs.length ∧ i = .int .i64 k ∧ Hid (∀ j, j < k → ix xs j = ix ys j) ∧ ∃ m, wr = w.drewN m) (fun i _ => xs.length - (intOf i).toNat)
    case atStart => exact ⟨0, Nat.zero_le _, rfl, (fun j hj => by omega), 0, rfl⟩
    case round =>
      obtain ⟨k, hk, rfl, hall, m, rfl⟩ := hrel
      by_cases hlt : k < xs.length
      · rcases hr with rfl | ⟨b, off, rfl, hb, hc⟩
        · simp at hlt
        rcases hr' with rfl | ⟨b', off', rfl, hb', hc'⟩
        · have h0 := HL.out; simp only [List.length_nil] at h0; omega
        have hlt' : k < ys.length := by have := HL.out; omega
        have hcell := hc k hlt
        have hcell' := hc' k hlt'
        clear hc hc'
        by_cases he : ix xs k = ix ys k
        · have he' : (ix xs k != ix ys k) = false := by simp [he]
          have HE := Lib.hid he
          clear he
          go_wp2_with fail
          go_quiet (fail)
          go_wp2
          go_roundw
          case rel => exact ⟨k + 1, by omega, by go_num, (fun j hj => by rcases Nat.lt_succ_iff_lt_or_eq.1 hj with h | rfl; exact hall.out j h; exact HE.out), _, rfl⟩
          case measure => simp [intOf]; omega
        · have he' : (ix xs k != ix ys k) = true := by simp [he]
          have HE := Lib.hid he
          clear he
          go_wp2_with fail
          go_quiet (fail)
          go_wp2
          go_ret
          refine ⟨?_, m + nq, World.drewN_drewN _ _ _⟩
          have : decide (xs = ys) = false := by
            rw [decide_eq_false_iff_not]
            intro h; exact HE.out (by rw [h])
          rw [this]; rfl
      · go_wp2
        go_ret
        refine ⟨?_, _, rfl⟩
        have : decide (xs = ys) = true := decide_eq_true (ext_ix HL.out (fun j hj => hall.out j (by omega)))
        rw [this]; rfl
  · have hb1 : (((xs.length : Nat) : Int) != ((ys.length : Nat) : Int)) = true := by simp; omega
    have : decide (xs = ys) = false := by
      rw [decide_eq_false_iff_not]
      intro h; exact hl (by rw [h])
    rw [this]
    clear this
    go_enter Try.func127, Try.ntmps127
    go_wp2
    go_ret
    exact ⟨rfl, 0, rfl⟩
set_option maxHeartbeats 1000000 in
theorem sEqual_any (a : Option Addr) (n cap : Nat) (xs : List Int) (a' : Option Addr) (n' cap' : Nat) (ys : List Int) (w : World) (h : Rd w (.int .i64) a n xs) (h' : Rd w (.int .i64) a' n' ys) :
    Calls Try.prog 76 #[.slice a n cap, .slice a' n' cap'] w fun e w' => e = .returned (.bool (decide (xs = ys))) ∧ ∃ m, w' = w.drewN m := by
  obtain ⟨rfl, hm, hr⟩ := h
  obtain ⟨rfl, hm', hr'⟩ := h'
  by_cases hl : xs.length = ys.length
  · have HL := Lib.hid hl
    have hb1 : (((xs.length : Nat) : Int) != ((ys.length : Nat) : Int)) = false := by simp [hl]
    clear hl
    go_enter Try.func76, Try.ntmps76
    go_wp2
    go_loopw [13] (fun i wr => ∃ k : Nat, k ≤ xs.length ∧ i = .int .i64 k ∧ Hid (∀ j, j < k → ix xs j = ix ys j) ∧ ∃ m, wr = w.drewN m) (fun i _ => xs.length - (intOf i).toNat)
    case atStart => exact ⟨0, Nat.zero_le _, rfl, (fun j hj => by omega), 0, rfl⟩
    case round =>
      obtain ⟨k, hk, rfl, hall, m, rfl⟩ := hrel
      by_cases hlt : k < xs.length
      · rcases hr with rfl | ⟨b, off, rfl, hb, hc⟩
        · simp at hlt
        rcases hr' with rfl | ⟨b', off', rfl, hb', hc'⟩
        · have h0 := HL.out; simp only [List.length_nil] at h0; omega
        have hlt' : k < ys.length := by have := HL.out; omega
        have hcell := hc k hlt
        have hcell' := hc' k hlt'
        clear hc hc'
        by_cases he : ix xs k = ix ys k
        · have he' : (ix xs k != ix ys k) = false := by simp [he]
          have HE := Lib.hid he
          clear he
          go_wp2_with fail
          go_quiet (fail)
          go_wp2
          go_roundw
          case rel => exact ⟨k + 1, by omega, by go_num, (fun j hj => by rcases Nat.lt_succ_iff_lt_or_eq.1 hj with h | rfl; exact hall.out j h; exact HE.out), _, rfl⟩
          case measure => simp [intOf]; omega
        · have he' : (ix xs k != ix ys k) = true := by simp [he]
          have HE := Lib.hid he
          clear he
          go_wp2_with fail
          go_quiet (fail)
          go_wp2
          go_ret
          refine ⟨?_, m + nq, World.drewN_drewN _ _ _⟩
          have : decide (xs = ys) = false := by
            rw [decide_eq_false_iff_not]
            intro h; exact HE.out (by rw [h])
          rw [this]; rfl
      · go_wp2
        go_ret
        refine ⟨?_, _, rfl⟩
        have : decide (xs = ys) = true := decide_eq_true (ext_ix HL.out (fun j hj => hall.out j (by omega)))
        rw [this]; rfl
  · have hb1 : (((xs.length : Nat) : Int) != ((ys.length : Nat) : Int)) = true := by simp; omega
    have : decide (xs = ys) = false := by
      rw [decide_eq_false_iff_not]
      intro h; exact hl (by rw [h])
    rw [this]
    clear this
    go_enter Try.func76, Try.ntmps76
    go_wp2
    go_ret
    exact ⟨rfl, 0, rfl⟩
set_option maxHeartbeats 1000000 in
theorem r8Same_any (a : Option Addr) (n cap : Nat) (xs : List Int) (a' : Option Addr) (n' cap' : Nat) (ys : List Int) (w : World) (h : Rd w (.int .i64) a n xs) (h' : Rd w (.int .i64) a' n' ys) :
    Calls Try.prog 52 #[.slice a n cap, .slice a' n' cap'] w fun e w' => e = .returned (.bool (decide (xs = ys))) ∧ ∃ m, w' = w.drewN m := by
  obtain ⟨rfl, hm, hr⟩ := h
  obtain ⟨rfl, hm', hr'⟩ := h'
  by_cases hl : xs.length = ys.length
  · have HL := Lib.hid hl
    have hb1 : (((xs.length : Nat) : Int) != ((ys.length : Nat) : Int)) = false := by simp [hl]
    clear hl
    go_enter Try.func52, Try.ntmps52
    go_wp2
    go_loopw [5] (fun i wr => ∃ k : Nat, k ≤ xs.length ∧ i = .int .i64 k ∧ Hid (∀ j, j < k → ix xs j = ix ys j) ∧ ∃ m, wr = w.drewN m) (fun i _ => xs.length - (intOf i).toNat)
    case atStart => exact ⟨0, Nat.zero_le _, rfl, (fun j hj => by omega), 0, rfl⟩
    case round =>
      obtain ⟨k, hk, rfl, hall, m, rfl⟩ := hrel
      by_cases hlt : k < xs.length
      · rcases hr with rfl | ⟨b, off, rfl, hb, hc⟩
        · simp at hlt
        rcases hr' with rfl | ⟨b', off', rfl, hb', hc'⟩
        · have h0 := HL.out; simp only [List.length_nil] at h0; omega
        have hlt' : k < ys.length := by have := HL.out; omega
        have hcell := hc k hlt
        have hcell' := hc' k hlt'
        clear hc hc'
        by_cases he : ix xs k = ix ys k
        · have he' : (ix xs k != ix ys k) = false := by simp [he]
          have HE := Lib.hid he
          clear he
          go_wp2_with fail
          go_quiet (fail)
          go_wp2
          go_roundw
          case rel => exact ⟨k + 1, by omega, by go_num, (fun j hj => by rcases Nat.lt_succ_iff_lt_or_eq.1 hj with h | rfl; exact hall.out j h; exact HE.out), _, rfl⟩
          case measure => simp [intOf]; omega
        · have he' : (ix xs k != ix ys k) = true := by simp [he]
          have HE := Lib.hid he
          clear he
          go_wp2_with fail
          go_quiet (fail)
          go_wp2
          go_ret
          refine ⟨?_, m + nq, World.drewN_drewN _ _ _⟩
          have : decide (xs = ys) = false := by
            rw [decide_eq_false_iff_not]
            intro h; exact HE.out (by rw [h])
          rw [this]; rfl
      · go_wp2
        go_ret
        refine ⟨?_, _, rfl⟩
        have : decide (xs = ys) = true := decide_eq_true (ext_ix HL.out (fun j hj => hall.out j (by omega)))
        rw [this]; rfl
  · have hb1 : (((xs.length : Nat) : Int) != ((ys.length : Nat) : Int)) = true := by simp; omega
    have : decide (xs = ys) = false := by
      rw [decide_eq_false_iff_not]
      intro h; exact hl (by rw [h])
    rw [this]
    clear this
    go_enter Try.func52, Try.ntmps52
    go_wp2
    go_ret
    exact ⟨rfl, 0, rfl⟩
end Go.Proofs.Ytajekmpjebhaoaa
