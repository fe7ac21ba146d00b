/- slices.IndexFunc, ContainsFunc at a quiet test. -/
import Derived.Test.YtajekmpjebhaoaaFin
namespace Go.Proofs.Ytajekmpjebhaoaa
open Go.RowKit
set_option linter.unusedSimpArgs false
set_option linter.unusedVariables false

/-- The first place at which p holds; -1 if there is none. -/
def firstIdx {α : Type} (p : α → Bool) (xs : List α) : Int := match xs.findIdx? p with | some i => (i : Int) | none => -1

theorem firstIdx_at {α : Type} [Inhabited α] (p : α → Bool) (xs : List α) (k : Nat) (hk : k < xs.length) (h : p (ix xs k) = true) (hall : ∀ j, j < k → p (ix xs j) = false) : firstIdx p xs = (k : Int) := by
  have : xs.findIdx? p = some k := by
    rw [List.findIdx?_eq_some_iff_getElem]
    refine ⟨hk, by rw [← ix_eq xs k hk]; exact h, fun j hj => ?_⟩
    rw [← ix_eq xs j (by omega)]
    simp [hall j hj]
  unfold firstIdx; rw [this]

theorem firstIdx_none {α : Type} [Inhabited α] (p : α → Bool) (xs : List α) (hall : ∀ j, j < xs.length → p (ix xs j) = false) : firstIdx p xs = -1 := by
  have : xs.findIdx? p = none := by
    rw [List.findIdx?_eq_none_iff]
    intro x hx
    obtain ⟨j, hj, rfl⟩ := List.getElem_of_mem hx
    rw [← ix_eq xs j hj]; exact hall j hj
  unfold firstIdx; rw [this]

theorem firstIdx_any {α : Type} (p : α → Bool) (xs : List α) : decide (0 ≤ firstIdx p xs) = xs.any p := by
  unfold firstIdx
  cases h : xs.findIdx? p with
  | none =>
    rw [List.findIdx?_eq_none_iff] at h
    have : xs.any p = false := by rw [List.any_eq_false]; intro x hx; simp [h x hx]
    simp [this]
  | some i =>
    rw [List.findIdx?_eq_some_iff_getElem] at h
    obtain ⟨hi, hp, _⟩ := h
    have : xs.any p = true := List.any_eq_true.2 ⟨_, List.getElem_mem hi, hp⟩
    simp [this]

set_option maxHeartbeats 400000 in
theorem IndexFunc_float32 (a : Option Addr) (n cap : Nat) (xs : List Nat) (fid : FuncId) (cs : Array Value) (p : Nat → Bool) (w : World) (h : Rd w (Value.float .f32) a n xs) (hent : ∀ args w, (callFunc fid args).run Try.prog w = .ok (.enter fid args) w)
    (hp : ∀ x m, Calls Try.prog fid (#[Value.float .f32 x] ++ cs) (w.drewN m) fun e w' => e = .returned (.bool (p x)) ∧ ∃ m, w' = w.drewN m) :
    Calls Try.prog 152 #[.slice a n cap, .func (.func fid) #[] cs] w fun e w' => e = .returned (.int .i64 (firstIdx p xs)) ∧ ∃ m, w' = w.drewN m := by
  obtain ⟨rfl, hm, hr⟩ := h
  have HP := Lib.hid hp
  clear hp
  go_enter Try.func152, Try.ntmps152
  go_wp2
  go_loopw [8] (fun i wr => ∃ k : Nat, k ≤ xs.length ∧ i = .int .i64 k ∧ Hid (∀ j, j < k → p (ix xs j) = false) ∧ ∃ m, wr = w.drewN m) (fun i _ => xs.length - (intOf i).toNat)
  case atStart => exact ⟨0, Nat.zero_le _, rfl, (fun j hj => by omega), 0, rfl⟩
  case round =>
    obtain ⟨k, hk, rfl, hall, m, rfl⟩ := hrel
    by_cases hlt : k < xs.length
    · rcases hr with rfl | ⟨b, off, rfl, hb, hc⟩
      · simp at hlt
      have hcell := hc k hlt
      clear hc
      cases hf : p (ix xs k)
      · go_wp2_with fail
        refine (HP.out _ _).mono ?_
        rintro e w' ⟨rfl, m', rfl⟩
        go_wp2
        go_roundw
        case rel => exact ⟨k + 1, by omega, by go_num, (fun j hj => by rcases Nat.lt_succ_iff_lt_or_eq.1 hj with h | rfl; exact hall.out j h; exact hf), _, rfl⟩
        case measure => simp [intOf]; omega
      · go_wp2_with fail
        refine (HP.out _ _).mono ?_
        rintro e w' ⟨rfl, m', rfl⟩
        go_wp2
        go_ret
        exact ⟨by rw [firstIdx_at p xs k hlt hf hall.out]; rfl, _, rfl⟩
    · go_wp2
      go_ret
      exact ⟨by rw [firstIdx_none p xs (fun j hj => hall.out j (by omega))]; rfl, _, rfl⟩
theorem ContainsFunc_float32 (a : Option Addr) (n cap : Nat) (xs : List Nat) (fid : FuncId) (cs : Array Value) (p : Nat → Bool) (w : World) (h : Rd w (Value.float .f32) a n xs) (hent : ∀ args w, (callFunc fid args).run Try.prog w = .ok (.enter fid args) w)
    (hp : ∀ x m, Calls Try.prog fid (#[Value.float .f32 x] ++ cs) (w.drewN m) fun e w' => e = .returned (.bool (p x)) ∧ ∃ m, w' = w.drewN m) :
    Calls Try.prog 125 #[.slice a n cap, .func (.func fid) #[] cs] w fun e w' => e = .returned (.bool (xs.any p)) ∧ ∃ m, w' = w.drewN m := by
  have HP := Lib.hid hp
  clear hp
  have HH := Lib.hid h
  clear h
  have H0 := firstIdx_any p xs
  go_enter Try.func125, Try.ntmps125
  go_wp2_with fail
  refine (IndexFunc_float32 a n cap xs fid cs p _ HH.out hent HP.out).mono ?_
  rintro e w' ⟨rfl, m', rfl⟩
  go_wp2
  go_ret
  exact ⟨rfl, _, rfl⟩
set_option maxHeartbeats 400000 in
theorem IndexFunc_int64 (a : Option Addr) (n cap : Nat) (xs : List Int) (fid : FuncId) (cs : Array Value) (p : Int → Bool) (w : World) (h : Rd w (Value.int .i64) a n xs) (hent : ∀ args w, (callFunc fid args).run Try.prog w = .ok (.enter fid args) w)
    (hp : ∀ x m, Calls Try.prog fid (#[Value.int .i64 x] ++ cs) (w.drewN m) fun e w' => e = .returned (.bool (p x)) ∧ ∃ m, w' = w.drewN m) :
    Calls Try.prog 156 #[.slice a n cap, .func (.func fid) #[] cs] w fun e w' => e = .returned (.int .i64 (firstIdx p xs)) ∧ ∃ m, w' = w.drewN m := by
  obtain ⟨rfl, hm, hr⟩ := h
  have HP := Lib.hid hp
  clear hp
  go_enter Try.func156, Try.ntmps156
  go_wp2
  go_loopw [8] (fun i wr => ∃ k : Nat, k ≤ xs.length ∧ i = .int .i64 k ∧ Hid (∀ j, j < k → p (ix xs j) = false) ∧ ∃ m, wr = w.drewN m) (fun i _ => xs.length - (intOf i).toNat)
  case atStart => exact ⟨0, Nat.zero_le _, rfl, (fun j hj => by omega), 0, rfl⟩
  case round =>
    obtain ⟨k, hk, rfl, hall, m, rfl⟩ := hrel
    by_cases hlt : k < xs.length
    · rcases hr with rfl | ⟨b, off, rfl, hb, hc⟩
      · simp at hlt
      have hcell := hc k hlt
      clear hc
      cases hf : p (ix xs k)
      · go_wp2_with fail
        refine (HP.out _ _).mono ?_
        rintro e w' ⟨rfl, m', rfl⟩
        go_wp2
        go_roundw
        case rel => exact ⟨k + 1, by omega, by go_num, (fun j hj => by rcases Nat.lt_succ_iff_lt_or_eq.1 hj with h | rfl; exact hall.out j h; exact hf), _, rfl⟩
        case measure => simp [intOf]; omega
      · go_wp2_with fail
        refine (HP.out _ _).mono ?_
        rintro e w' ⟨rfl, m', rfl⟩
        go_wp2
        go_ret
        exact ⟨by rw [firstIdx_at p xs k hlt hf hall.out]; rfl, _, rfl⟩
    · go_wp2
      go_ret
      exact ⟨by rw [firstIdx_none p xs (fun j hj => hall.out j (by omega))]; rfl, _, rfl⟩
theorem ContainsFunc_int64 (a : Option Addr) (n cap : Nat) (xs : List Int) (fid : FuncId) (cs : Array Value) (p : Int → Bool) (w : World) (h : Rd w (Value.int .i64) a n xs) (hent : ∀ args w, (callFunc fid args).run Try.prog w = .ok (.enter fid args) w)
    (hp : ∀ x m, Calls Try.prog fid (#[Value.int .i64 x] ++ cs) (w.drewN m) fun e w' => e = .returned (.bool (p x)) ∧ ∃ m, w' = w.drewN m) :
    Calls Try.prog 137 #[.slice a n cap, .func (.func fid) #[] cs] w fun e w' => e = .returned (.bool (xs.any p)) ∧ ∃ m, w' = w.drewN m := by
  have HP := Lib.hid hp
  clear hp
  have HH := Lib.hid h
  clear h
  have H0 := firstIdx_any p xs
  go_enter Try.func137, Try.ntmps137
  go_wp2_with fail
  refine (IndexFunc_int64 a n cap xs fid cs p _ HH.out hent HP.out).mono ?_
  rintro e w' ⟨rfl, m', rfl⟩
  go_wp2
  go_ret
  exact ⟨rfl, _, rfl⟩
theorem areFinite1_any (b : Nat) (w : World) : Calls Try.prog 126 #[.float .f32 b] w fun e w' => e = .returned (.bool (!finB .f32 b)) ∧ ∃ m, w' = w.drewN m := by
  go_enter Try.func126, Try.ntmps126
  go_wp2_with (go_at_call 66; refine (IsFinite_any _ _).mono ?_; rintro e w' ⟨rfl, n, rfl⟩)
  go_ret
  exact ⟨rfl, _, rfl⟩

theorem any_not {α : Type} (p : α → Bool) (xs : List α) : (!xs.any (fun x => !p x)) = xs.all p := by
  induction xs with
  | nil => rfl
  | cons x xs ih => simp [← ih]

theorem areFinite_any (a : Option Addr) (n cap : Nat) (xs : List Nat) (w : World) (h : Rd w (.float .f32) a n xs) :
    Calls Try.prog 71 #[.slice a n cap] w fun e w' => e = .returned (.bool (xs.all (finB .f32))) ∧ ∃ m, w' = w.drewN m := by
  have HH := Lib.hid h
  clear h
  have H0 := any_not (finB .f32) xs
  go_enter Try.func71, Try.ntmps71
  go_wp2_with fail
  refine (ContainsFunc_float32 a n cap xs _ #[] (fun x => !finB .f32 x) _ HH.out (enter_of Try.func126 (by kernel_rfl) rfl) (fun x m => (areFinite1_any x _).mono fun e w' ⟨he, m', hw⟩ => ⟨he, m + m', hw.trans (World.drewN_drewN _ _ _)⟩)).mono ?_
  rintro e w' ⟨rfl, m', rfl⟩
  go_wp2
  go_ret
  exact ⟨by rw [← H0]; rfl, _, rfl⟩
end Go.Proofs.Ytajekmpjebhaoaa
