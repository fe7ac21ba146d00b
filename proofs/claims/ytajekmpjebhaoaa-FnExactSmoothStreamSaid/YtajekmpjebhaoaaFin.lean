/- Lists of finite numbers, as the reference and as the program tell them. -/
import Derived.Test.YtajekmpjebhaoaaSl
namespace Go.Proofs.Ytajekmpjebhaoaa
open Go.RowKit
set_option linter.unusedSimpArgs false
set_option linter.unusedVariables false

theorem len_int (n : Nat) (h : n ≤ 17592186044416) : n ≤ 9223372036854775807 := by omega

set_option maxHeartbeats 400000 in
theorem l02Finite_any (a : Option Addr) (n cap : Nat) (xs : List Nat) (w : World) (h : Rd w (.float .f32) a n xs) :
    Calls Try.prog 124 #[.slice a n cap] w fun e w' => e = .returned (.bool (xs.all (finB .f32))) ∧ ∃ m, w' = w.drewN m := by
  obtain ⟨rfl, hm, hr⟩ := h
  go_enter Try.func124, Try.ntmps124
  go_wp2
  go_loopw [3] (fun i wr => ∃ k : Nat, k ≤ xs.length ∧ i = .int .i64 k ∧ Hid (∀ j, j < k → finB .f32 (ix xs j) = true) ∧ ∃ m, wr = w.drewN m) (fun i _ => xs.length - (intOf i).toNat)
  case atStart => exact ⟨0, Nat.zero_le _, rfl, (fun j hj => by omega), 0, rfl⟩
  case round =>
    obtain ⟨k, hk, rfl, hall, m, rfl⟩ := hrel
    by_cases hlt : k < xs.length
    · rcases hr with rfl | ⟨b, off, rfl, hb, hc⟩
      · simp at hlt
      have hcell := hc k hlt
      clear hc
      cases hf : finB .f32 (ix xs k)
      · go_wp2_with (go_at_call 72; refine (l01Finite_any _ _).mono ?_; rintro e w' ⟨rfl, n, rfl⟩)
        go_ret
        exact ⟨by rw [all_ix_false xs _ k hlt hf]; rfl, _, rfl⟩
      · go_wp2_with (go_at_call 72; refine (l01Finite_any _ _).mono ?_; rintro e w' ⟨rfl, n, rfl⟩)
        go_roundw
        case rel => exact ⟨k + 1, by omega, by go_num, (fun j hj => by rcases Nat.lt_succ_iff_lt_or_eq.1 hj with h | rfl; exact hall.out j h; exact hf), _, rfl⟩
        case measure => simp [intOf]; omega
    · go_wp2
      go_ret
      exact ⟨by rw [(all_ix xs (finB .f32)).2 (fun j hj => hall.out j (by omega))]; rfl, _, rfl⟩

end Go.Proofs.Ytajekmpjebhaoaa
