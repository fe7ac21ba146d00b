/- How many numbers are at most x. -/
import Derived.Test.YtajekmpjebhaoaaWIsList
namespace Go.Proofs.Ytajekmpjebhaoaa
open Go.RowKit
set_option linter.unusedSimpArgs false
set_option linter.unusedVariables false

def fle (a b : Nat) : Bool := FloatKind.f32.format.order a b == some .lt || FloatKind.f32.format.order a b == some .eq
def rk (x : Nat) (xs : List Nat) : Nat := (xs.filter (fun y => fle y x)).length

theorem rk_le (x : Nat) (xs : List Nat) : rk x xs ≤ xs.length := List.length_filter_le _ _
theorem rk_take (x : Nat) (xs : List Nat) (k : Nat) (h : k < xs.length) : rk x (xs.take (k + 1)) = rk x (xs.take k) + if fle (ix xs k) x then 1 else 0 := by
  unfold rk
  rw [take_ix xs k h, List.filter_append, List.length_append]
  cases e : fle (ix xs k) x <;> simp [List.filter_cons, e]

set_option maxHeartbeats 400000 in
theorem rank_any (a : Option Addr) (n cap : Nat) (xs : List Nat) (x : Nat) (w : World) (h : Rd w (.float .f32) a n xs) :
    Calls Try.prog 73 #[.slice a n cap, .float .f32 x] w fun e w' => e = .returned (.int .i64 (rk x xs : Nat)) ∧ w' = w := by
  obtain ⟨rfl, hm, hr⟩ := h
  go_enter Try.func73, Try.ntmps73
  go_wp2
  go_loop [5, 10] (fun c i => ∃ k : Nat, k ≤ xs.length ∧ i = .int .i64 k ∧ c = .int .i64 (rk x (xs.take k) : Nat)) (fun _ i => xs.length - (intOf i).toNat)
  case atStart => exact ⟨0, Nat.zero_le _, rfl, rfl⟩
  case round =>
    obtain ⟨k, hk, rfl, rfl⟩ := hrel
    have hle := rk_le x (xs.take k)
    rw [List.length_take] at hle
    by_cases hlt : k < xs.length
    · rcases hr with rfl | ⟨b, off, rfl, hb, hc⟩
      · simp at hlt
      have hcell := hc k hlt
      have HT := Lib.hid (rk_take x xs k hlt)
      clear hc
      cases hf : fle (ix xs k) x
      all_goals
        have HF := Lib.hid hf
        unfold fle at hf
        go_wp2
        go_round
        case rel => exact ⟨k + 1, by omega, by go_num, by rw [HT.out, HF.out]; first | rfl | go_num⟩
        case measure => simp [intOf]; omega
    · have he : k = xs.length := by omega
      subst he
      rw [List.take_length] at *
      go_wp2
      go_ret
      exact ⟨rfl, rfl⟩
theorem iRankIn_any (a : Option Addr) (n cap : Nat) (xs : List Nat) (x : Nat) (w : World) (h : Rd w (.float .f32) a n xs) :
    Calls Try.prog 25 #[.slice a n cap, .float .f32 x] w fun e w' => (e = if isl xs && finB .f32 x then .returned (.tuple #[.int .i64 (rk x xs : Nat), .bool true]) else .returned (.tuple #[.int .i64 0, .bool false])) ∧ ∃ m, w' = w.drewN m := by
  have HH := Lib.hid h
  clear h
  cases e1 : isl xs <;> cases e2 : finB .f32 x
  all_goals
    go_enter Try.func25, Try.ntmps25
    go_wp2_with (first | (go_at_call 22; refine (iIsList_any a n cap xs _ HH.out).mono ?_; rintro e w' ⟨rfl, m, rfl⟩) | (go_at_call 66; refine (IsFinite_any _ _).mono ?_; rintro e w' ⟨rfl, m, rfl⟩) | (go_at_call 73; refine (rank_any a n cap xs x _ ((HH.out.drewN _).drewN _)).mono ?_; rintro e w' ⟨rfl, rfl⟩) | (go_at_call 73; refine (rank_any a n cap xs x _ (HH.out.drewN _)).mono ?_; rintro e w' ⟨rfl, rfl⟩))
    go_ret2
    exact ⟨rfl, _, rfl⟩
set_option maxHeartbeats 1000000 in
theorem sRankIn_any (a : Option Addr) (n cap : Nat) (xs : List Nat) (x : Nat) (w : World) (h : Rd w (.float .f32) a n xs) :
    Calls Try.prog 24 #[.slice a n cap, .float .f32 x] w fun e w' => (e = if isl xs && finB .f32 x then .returned (.tuple #[.int .i64 (rk x xs : Nat), .bool true]) else .returned (.tuple #[.int .i64 0, .bool false])) ∧ ∃ m, w' = w.drewN m := by
  have HH := Lib.hid h
  obtain ⟨e0, hm, hr⟩ := h
  subst e0
  cases e1 : isl xs <;> cases e2 : finB .f32 x
  rotate_left 3
  · go_enter Try.func24, Try.ntmps24
    go_wp2_with (first | (go_at_call 70; refine (l05List_any a xs.length cap xs _ HH.out).mono ?_; rintro e w' ⟨rfl, m, rfl⟩) | (go_at_call 72; refine (l01Finite_any _ _).mono ?_; rintro e w' ⟨rfl, m, rfl⟩))
    go_loop [6, 18] (fun c i => ∃ k : Nat, k ≤ xs.length ∧ i = .int .i64 k ∧ c = .int .i64 (rk x (xs.take k) : Nat)) (fun _ i => xs.length - (intOf i).toNat)
    case atStart => exact ⟨0, Nat.zero_le _, rfl, rfl⟩
    case round =>
      obtain ⟨k, hk, rfl, rfl⟩ := hrel
      have hle := rk_le x (xs.take k)
      rw [List.length_take] at hle
      by_cases hlt : k < xs.length
      · rcases hr with rfl | ⟨b, off, rfl, hb, hc⟩
        · simp at hlt
        have hcell := hc k hlt
        have HT := Lib.hid (rk_take x xs k hlt)
        clear hc
        cases hf : fle (ix xs k) x
        all_goals
          have HF := Lib.hid hf
          unfold fle at hf
          go_wp2
          go_round
          case rel => exact ⟨k + 1, by omega, by go_num, by rw [HT.out, HF.out]; first | rfl | go_num⟩
          case measure => simp [intOf]; omega
      · have he : k = xs.length := by omega
        subst he
        rw [List.take_length] at *
        go_wp2
        go_ret2
        exact ⟨rfl, _, rfl⟩
  all_goals
    go_enter Try.func24, Try.ntmps24
    go_wp2_with (first | (go_at_call 70; refine (l05List_any a xs.length cap xs _ HH.out).mono ?_; rintro e w' ⟨rfl, m, rfl⟩) | (go_at_call 72; refine (l01Finite_any _ _).mono ?_; rintro e w' ⟨rfl, m, rfl⟩))
    go_ret2
    exact ⟨rfl, _, rfl⟩
end Go.Proofs.Ytajekmpjebhaoaa
