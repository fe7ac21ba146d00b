/- The laws' own helpers: copies of slices, told equal. -/
import Derived.Test.YtajekmpjebhaoaaSl
import Derived.Test.YtajekmpjebhaoaaSame
namespace Go.Proofs.Ytajekmpjebhaoaa
open Go.RowKit
set_option linter.unusedSimpArgs false
set_option linter.unusedVariables false

theorem infoFloat32 : (Try.prog.info? 22).map (fun i => (i.zero, i.size, i.bytes)) = some (some (Value.float .f32 0), 1, 4) := by kernel_rfl

theorem toFloat32_step {w wr : World} {B E g n k : Nat} {xs : List Nat} (hk : k < xs.length) (hown : wr.ownsRow B E 1 (.slice (some ⟨g, 0, none⟩) n n) n ((xs.take k).map (Value.float .f32) ++ List.replicate (xs.length - k) (Value.float .f32 0))) :
    (wr.setCell ⟨g, k, none⟩ (Value.float .f32 (ix xs k))).ownsRow B E 1 (.slice (some ⟨g, 0, none⟩) n n) n ((xs.take (k + 1)).map (Value.float .f32) ++ List.replicate (xs.length - (k + 1)) (Value.float .f32 0)) := by
  have h := (hown.stored k (Value.float .f32 (ix xs k))).1
  have e : (((xs.take k).map (Value.float .f32) ++ List.replicate (xs.length - k) (Value.float .f32 0)).set k (Value.float .f32 (ix xs k))) = ((xs.take (k + 1)).map (Value.float .f32) ++ List.replicate (xs.length - (k + 1)) (Value.float .f32 0)) := by
    have hl : ((xs.take k).map (Value.float .f32)).length = k := by simp; omega
    have er : xs.length - k = (xs.length - (k + 1)) + 1 := by omega
    rw [List.set_append_right _ _ (by omega), hl, Nat.sub_self, er, List.replicate_succ, List.set_cons_zero, take_ix xs k hk]
    simp
  rw [e] at h
  exact h

set_option maxHeartbeats 800000 in
theorem toFloat32S_any (a : Option Addr) (n cap : Nat) (xs : List Nat) (w : World) (h : Rd w (Value.float .f32) a n xs) :
    Calls Try.prog 21 #[.slice a n cap] w fun e w' => ∃ v, e = .returned v ∧ w'.ownsRow w.heap.size 22 1 v n (xs.map (Value.float .f32)) ∧ Below w.heap.size w w' := by
  obtain ⟨i0, hi, hz0, hz1, hz2⟩ := info_parts infoFloat32
  obtain ⟨rfl, hm, hr⟩ := h
  go_enter Try.func21, Try.ntmps21
  go_wp2_with (at_make; refine wpList_make_full _ rfl _ _ 31 rfl w.heap.size 22 i0 (Value.float .f32 0) 1 Try.underlying31 hi hz0 hz1 _ _ _ _ xs.length rfl rfl rfl rfl (by rw [hz2]; omega) (by unfold maxLen; omega) (Nat.le_refl _) ?_; intro w1 hown0 hgrow0)
  have hb0 : Below w.heap.size w w1 := (Below.refl _ _).grown hgrow0 (Nat.le_refl _) (fun k hk => by cases hk)
  go_loopw [4] (fun i wr => ∃ k : Nat, k ≤ xs.length ∧ i = .int .i64 k ∧ wr.ownsRow w.heap.size 22 1 (.slice (some ⟨w.heap.size, 0, none⟩) xs.length xs.length) xs.length ((xs.take k).map (Value.float .f32) ++ List.replicate (xs.length - k) (Value.float .f32 0)) ∧ Below w.heap.size w wr) (fun i _ => xs.length - (intOf i).toNat)
  case atStart => exact ⟨0, Nat.zero_le _, rfl, by simpa [madeOne, Value.cells] using hown0, hb0⟩
  case round =>
    obtain ⟨k, hk, rfl, hown, hbel⟩ := hrel
    by_cases hlt : k < xs.length
    · rcases hr with rfl | ⟨b, off, rfl, hb, hc⟩
      · simp at hlt
      have hcell : wr.cell? ⟨b, off + k, none⟩ = some (Value.float .f32 (ix xs k)) := (hbel.cell (p := ⟨b, off + k, none⟩) hb).trans (hc k hlt)
      have hfz := hown.frozenAt k
      have hg : wr.cell? ⟨w.heap.size, k, none⟩ = some (Value.float .f32 0) := by
        rw [hown.cellAt k (by omega)]
        have hl : ((xs.take k).map (Value.float .f32)).length = k := by simp; omega
        rw [List.getElem?_append_right (by omega), hl, Nat.sub_self]
        have er : xs.length - k = (xs.length - (k + 1)) + 1 := by omega
        rw [er]; rfl
      have HS := Lib.hid (toFloat32_step (w := w) hlt hown)
      have HB := Lib.hid (hbel.setCell (p := ⟨w.heap.size, k, none⟩) (Nat.le_refl _) (Value.float .f32 (ix xs k)))
      clear hc hown hbel hgrow0 hown0 hb0
      go_wp2
      go_roundw
      case rel => exact ⟨k + 1, by omega, by go_num, HS.out, HB.out⟩
      case measure => simp [intOf]; omega
    · have he : k = xs.length := by omega
      subst he
      have HO : Hid (wr.ownsRow w.heap.size 22 1 (.slice (some ⟨w.heap.size, 0, none⟩) xs.length xs.length) xs.length (xs.map (Value.float .f32))) := by
        have := hown
        simp only [List.take_length, Nat.sub_self, List.replicate_zero, List.append_nil] at this
        exact this
      clear hown
      go_wp2
      go_ret
      exact ⟨_, rfl, HO.out, hbel⟩
theorem infoInt64 : (Try.prog.info? 2).map (fun i => (i.zero, i.size, i.bytes)) = some (some (Value.int .i64 0), 1, 8) := by kernel_rfl

theorem toInt64_step {w wr : World} {B E g n k : Nat} {xs : List Int} (hk : k < xs.length) (hown : wr.ownsRow B E 1 (.slice (some ⟨g, 0, none⟩) n n) n ((xs.take k).map (Value.int .i64) ++ List.replicate (xs.length - k) (Value.int .i64 0))) :
    (wr.setCell ⟨g, k, none⟩ (Value.int .i64 (ix xs k))).ownsRow B E 1 (.slice (some ⟨g, 0, none⟩) n n) n ((xs.take (k + 1)).map (Value.int .i64) ++ List.replicate (xs.length - (k + 1)) (Value.int .i64 0)) := by
  have h := (hown.stored k (Value.int .i64 (ix xs k))).1
  have e : (((xs.take k).map (Value.int .i64) ++ List.replicate (xs.length - k) (Value.int .i64 0)).set k (Value.int .i64 (ix xs k))) = ((xs.take (k + 1)).map (Value.int .i64) ++ List.replicate (xs.length - (k + 1)) (Value.int .i64 0)) := by
    have hl : ((xs.take k).map (Value.int .i64)).length = k := by simp; omega
    have er : xs.length - k = (xs.length - (k + 1)) + 1 := by omega
    rw [List.set_append_right _ _ (by omega), hl, Nat.sub_self, er, List.replicate_succ, List.set_cons_zero, take_ix xs k hk]
    simp
  rw [e] at h
  exact h

set_option maxHeartbeats 800000 in
theorem toInt64S_any (a : Option Addr) (n cap : Nat) (xs : List Int) (w : World) (h : Rd w (Value.int .i64) a n xs) :
    Calls Try.prog 32 #[.slice a n cap] w fun e w' => ∃ v, e = .returned v ∧ w'.ownsRow w.heap.size 2 1 v n (xs.map (Value.int .i64)) ∧ Below w.heap.size w w' := by
  obtain ⟨i0, hi, hz0, hz1, hz2⟩ := info_parts infoInt64
  obtain ⟨rfl, hm, hr⟩ := h
  go_enter Try.func32, Try.ntmps32
  go_wp2_with (at_make; refine wpList_make_full _ rfl _ _ 38 rfl w.heap.size 2 i0 (Value.int .i64 0) 1 Try.underlying38 hi hz0 hz1 _ _ _ _ xs.length rfl rfl rfl rfl (by rw [hz2]; omega) (by unfold maxLen; omega) (Nat.le_refl _) ?_; intro w1 hown0 hgrow0)
  have hb0 : Below w.heap.size w w1 := (Below.refl _ _).grown hgrow0 (Nat.le_refl _) (fun k hk => by cases hk)
  go_loopw [4] (fun i wr => ∃ k : Nat, k ≤ xs.length ∧ i = .int .i64 k ∧ wr.ownsRow w.heap.size 2 1 (.slice (some ⟨w.heap.size, 0, none⟩) xs.length xs.length) xs.length ((xs.take k).map (Value.int .i64) ++ List.replicate (xs.length - k) (Value.int .i64 0)) ∧ Below w.heap.size w wr) (fun i _ => xs.length - (intOf i).toNat)
  case atStart => exact ⟨0, Nat.zero_le _, rfl, by simpa [madeOne, Value.cells] using hown0, hb0⟩
  case round =>
    obtain ⟨k, hk, rfl, hown, hbel⟩ := hrel
    by_cases hlt : k < xs.length
    · rcases hr with rfl | ⟨b, off, rfl, hb, hc⟩
      · simp at hlt
      have hcell : wr.cell? ⟨b, off + k, none⟩ = some (Value.int .i64 (ix xs k)) := (hbel.cell (p := ⟨b, off + k, none⟩) hb).trans (hc k hlt)
      have hfz := hown.frozenAt k
      have hg : wr.cell? ⟨w.heap.size, k, none⟩ = some (Value.int .i64 0) := by
        rw [hown.cellAt k (by omega)]
        have hl : ((xs.take k).map (Value.int .i64)).length = k := by simp; omega
        rw [List.getElem?_append_right (by omega), hl, Nat.sub_self]
        have er : xs.length - k = (xs.length - (k + 1)) + 1 := by omega
        rw [er]; rfl
      have HS := Lib.hid (toInt64_step (w := w) hlt hown)
      have HB := Lib.hid (hbel.setCell (p := ⟨w.heap.size, k, none⟩) (Nat.le_refl _) (Value.int .i64 (ix xs k)))
      clear hc hown hbel hgrow0 hown0 hb0
      go_wp2
      go_roundw
      case rel => exact ⟨k + 1, by omega, by go_num, HS.out, HB.out⟩
      case measure => simp [intOf]; omega
    · have he : k = xs.length := by omega
      subst he
      have HO : Hid (wr.ownsRow w.heap.size 2 1 (.slice (some ⟨w.heap.size, 0, none⟩) xs.length xs.length) xs.length (xs.map (Value.int .i64))) := by
        have := hown
        simp only [List.take_length, Nat.sub_self, List.replicate_zero, List.append_nil] at this
        exact this
      clear hown
      go_wp2
      go_ret
      exact ⟨_, rfl, HO.out, hbel⟩
theorem infoBool : (Try.prog.info? 4).map (fun i => (i.zero, i.size, i.bytes)) = some (some (Value.bool false), 1, 1) := by kernel_rfl

theorem toBool_step {w wr : World} {B E g n k : Nat} {xs : List Bool} (hk : k < xs.length) (hown : wr.ownsRow B E 1 (.slice (some ⟨g, 0, none⟩) n n) n ((xs.take k).map (Value.bool) ++ List.replicate (xs.length - k) (Value.bool false))) :
    (wr.setCell ⟨g, k, none⟩ (Value.bool (ix xs k))).ownsRow B E 1 (.slice (some ⟨g, 0, none⟩) n n) n ((xs.take (k + 1)).map (Value.bool) ++ List.replicate (xs.length - (k + 1)) (Value.bool false)) := by
  have h := (hown.stored k (Value.bool (ix xs k))).1
  have e : (((xs.take k).map (Value.bool) ++ List.replicate (xs.length - k) (Value.bool false)).set k (Value.bool (ix xs k))) = ((xs.take (k + 1)).map (Value.bool) ++ List.replicate (xs.length - (k + 1)) (Value.bool false)) := by
    have hl : ((xs.take k).map (Value.bool)).length = k := by simp; omega
    have er : xs.length - k = (xs.length - (k + 1)) + 1 := by omega
    rw [List.set_append_right _ _ (by omega), hl, Nat.sub_self, er, List.replicate_succ, List.set_cons_zero, take_ix xs k hk]
    simp
  rw [e] at h
  exact h

set_option maxHeartbeats 800000 in
theorem toBoolS_any (a : Option Addr) (n cap : Nat) (xs : List Bool) (w : World) (h : Rd w (Value.bool) a n xs) :
    Calls Try.prog 33 #[.slice a n cap] w fun e w' => ∃ v, e = .returned v ∧ w'.ownsRow w.heap.size 4 1 v n (xs.map (Value.bool)) ∧ Below w.heap.size w w' := by
  obtain ⟨i0, hi, hz0, hz1, hz2⟩ := info_parts infoBool
  obtain ⟨rfl, hm, hr⟩ := h
  go_enter Try.func33, Try.ntmps33
  go_wp2_with (at_make; refine wpList_make_full _ rfl _ _ 46 rfl w.heap.size 4 i0 (Value.bool false) 1 Try.underlying46 hi hz0 hz1 _ _ _ _ xs.length rfl rfl rfl rfl (by rw [hz2]; omega) (by unfold maxLen; omega) (Nat.le_refl _) ?_; intro w1 hown0 hgrow0)
  have hb0 : Below w.heap.size w w1 := (Below.refl _ _).grown hgrow0 (Nat.le_refl _) (fun k hk => by cases hk)
  go_loopw [4] (fun i wr => ∃ k : Nat, k ≤ xs.length ∧ i = .int .i64 k ∧ wr.ownsRow w.heap.size 4 1 (.slice (some ⟨w.heap.size, 0, none⟩) xs.length xs.length) xs.length ((xs.take k).map (Value.bool) ++ List.replicate (xs.length - k) (Value.bool false)) ∧ Below w.heap.size w wr) (fun i _ => xs.length - (intOf i).toNat)
  case atStart => exact ⟨0, Nat.zero_le _, rfl, by simpa [madeOne, Value.cells] using hown0, hb0⟩
  case round =>
    obtain ⟨k, hk, rfl, hown, hbel⟩ := hrel
    by_cases hlt : k < xs.length
    · rcases hr with rfl | ⟨b, off, rfl, hb, hc⟩
      · simp at hlt
      have hcell : wr.cell? ⟨b, off + k, none⟩ = some (Value.bool (ix xs k)) := (hbel.cell (p := ⟨b, off + k, none⟩) hb).trans (hc k hlt)
      have hfz := hown.frozenAt k
      have hg : wr.cell? ⟨w.heap.size, k, none⟩ = some (Value.bool false) := by
        rw [hown.cellAt k (by omega)]
        have hl : ((xs.take k).map (Value.bool)).length = k := by simp; omega
        rw [List.getElem?_append_right (by omega), hl, Nat.sub_self]
        have er : xs.length - k = (xs.length - (k + 1)) + 1 := by omega
        rw [er]; rfl
      have HS := Lib.hid (toBool_step (w := w) hlt hown)
      have HB := Lib.hid (hbel.setCell (p := ⟨w.heap.size, k, none⟩) (Nat.le_refl _) (Value.bool (ix xs k)))
      clear hc hown hbel hgrow0 hown0 hb0
      go_wp2
      go_roundw
      case rel => exact ⟨k + 1, by omega, by go_num, HS.out, HB.out⟩
      case measure => simp [intOf]; omega
    · have he : k = xs.length := by omega
      subst he
      have HO : Hid (wr.ownsRow w.heap.size 4 1 (.slice (some ⟨w.heap.size, 0, none⟩) xs.length xs.length) xs.length (xs.map (Value.bool))) := by
        have := hown
        simp only [List.take_length, Nat.sub_self, List.replicate_zero, List.append_nil] at this
        exact this
      clear hown
      go_wp2
      go_ret
      exact ⟨_, rfl, HO.out, hbel⟩
def q64 (c a : Nat) : Option Ordering := (opC .quo .f64 (can .f64 c) (can .f64 a)).bind fun x => (can .f64 0).bind fun y => some (compare (key Ieee.double x) (key Ieee.double y))
theorem q64_eq (c a : Nat) (w : World) : FloatKind.f64.format.order (fop .quo .f64 c a w) 0 = q64 c a := by
  rw [order_can, can_fop]; rfl

set_option maxHeartbeats 400000 in
theorem sameFloat_same (a b : Nat) (h : can .f64 a = can .f64 b) (w : World) : Calls Try.prog 39 #[.float .f64 a, .float .f64 b] w fun e w' => e = .returned (.bool true) ∧ ∃ m, w' = w.drewN m := by
  cases h1 : isNum .f64 a
  · have h2 : isNum .f64 b = false := by
      rw [can_nan h1] at h
      cases hb : isNum .f64 b
      · rfl
      · rw [can_num hb] at h; cases h
    have o1 := order_nan .f64 a a (Or.inl h1)
    have o2 := order_nan .f64 b b (Or.inl h2)
    clear h h1 h2
    go_enter Try.func39, Try.ntmps39
    go_wp2
    go_ret
    exact ⟨rfl, 0, rfl⟩
  · have h2 : b = a := by
      rw [can_num h1] at h
      exact (can_some h.symm).1.symm
    subst h2
    have o1 := order_self .f64 b h1
    clear h h1
    have HQ := q64_eq
    go_enter Try.func39, Try.ntmps39
    go_wp2
    all_goals go_ret
    all_goals first | exact ⟨by simp, 0, rfl⟩ | exact ⟨by simp, _, rfl⟩
set_option maxHeartbeats 1000000 in
theorem eqFloat32S_same (a : Option Addr) (n cap : Nat) (xs : List Nat) (a' : Option Addr) (n' cap' : Nat) (ys : List Nat) (he : xs.map (can .f32) = ys.map (can .f32)) (w : World) (h : Rd w (.float .f32) a n xs) (h' : Rd w (.float .f32) a' n' ys) :
    Calls Try.prog 23 #[.slice a n cap, .slice a' n' cap'] w fun e w' => e = .returned (.bool true) ∧ ∃ m, w' = w.drewN m := by
  obtain ⟨e1, hm, hr⟩ := h
  obtain ⟨e2, hm', hr'⟩ := h'
  have hl : ys.length = xs.length := by have := congrArg List.length he; simpa using this.symm
  obtain rfl : n' = n := by omega
  subst e1
  have hx : ∀ j, j < xs.length → can .f32 (ix xs j) = can .f32 (ix ys j) := fun j hj => by
    have := congrArg (fun l => l[j]?) he
    simp only [List.getElem?_map, ix_get? xs j hj, ix_get? ys j (by omega), Option.map_some, Option.some.injEq] at this
    exact this
  have HX := Lib.hid hx
  clear hx he hm' e2
  have HL := Lib.hid hl
  clear hl
  go_enter Try.func23, Try.ntmps23
  go_wp2
  go_loopw [5] (fun i wr => ∃ k : Nat, k ≤ xs.length ∧ i = .int .i64 k ∧ ∃ m, wr = w.drewN m) (fun i _ => xs.length - (intOf i).toNat)
  case atStart => exact ⟨0, Nat.zero_le _, rfl, 0, rfl⟩
  case round =>
    obtain ⟨k, hk, rfl, m, rfl⟩ := hrel
    by_cases hlt : k < xs.length
    · rcases hr with rfl | ⟨b, off, rfl, hb, hc⟩
      · simp at hlt
      rcases hr' with rfl | ⟨b', off', rfl, hb', hc'⟩
      · have := HL.out; simp at this; omega
      have hcell := hc k hlt
      have hcell' := hc' k (by have := HL.out; omega)
      clear hc hc'
      go_wp2_with fail
      go_region_with ((first | (go_at_call 39; refine (sameFloat_same _ _ (by rw [can_fcv_wide, can_fcv_wide, HX.out k hlt]) _).mono ?_; rintro e w' ⟨rfl, n, rfl⟩)))
      all_goals
        go_wp2
        go_roundw
        case rel => exact ⟨k + 1, by omega, by go_num, _, rfl⟩
        case measure => simp [intOf]; omega
    · go_wp2
      go_ret
      exact ⟨rfl, _, rfl⟩
set_option maxHeartbeats 1000000 in
theorem eqInt64S_same (a : Option Addr) (n cap : Nat) (xs : List Int) (a' : Option Addr) (cap' : Nat) (w : World) (h : Rd w (Value.int .i64) a n xs) (h' : Rd w (Value.int .i64) a' n xs) :
    Calls Try.prog 35 #[.slice a n cap, .slice a' n cap'] w fun e w' => e = .returned (.bool true) ∧ ∃ m, w' = w.drewN m := by
  obtain ⟨rfl, hm, hr⟩ := h
  obtain ⟨_, _, hr'⟩ := h'
  go_enter Try.func35, Try.ntmps35
  go_wp2
  go_loopw [5] (fun i wr => ∃ k : Nat, k ≤ xs.length ∧ i = .int .i64 k ∧ ∃ m, wr = w.drewN m) (fun i _ => xs.length - (intOf i).toNat)
  case atStart => exact ⟨0, Nat.zero_le _, rfl, 0, rfl⟩
  case round =>
    obtain ⟨k, hk, rfl, m, rfl⟩ := hrel
    by_cases hlt : k < xs.length
    · rcases hr with rfl | ⟨b, off, rfl, hb, hc⟩
      · simp at hlt
      rcases hr' with rfl | ⟨b', off', rfl, hb', hc'⟩
      · simp at hlt
      have hcell := hc k hlt
      have hcell' := hc' k hlt
      clear hc hc'
      go_wp2_with fail
      try go_quiet (fail)
      all_goals
        go_wp2
        go_roundw
        case rel => exact ⟨k + 1, by omega, by go_num, _, rfl⟩
        case measure => simp [intOf]; omega
    · go_wp2
      go_ret
      exact ⟨rfl, _, rfl⟩
set_option maxHeartbeats 1000000 in
theorem eqBoolS_same (a : Option Addr) (n cap : Nat) (xs : List Bool) (a' : Option Addr) (cap' : Nat) (w : World) (h : Rd w (Value.bool) a n xs) (h' : Rd w (Value.bool) a' n xs) :
    Calls Try.prog 36 #[.slice a n cap, .slice a' n cap'] w fun e w' => e = .returned (.bool true) ∧ ∃ m, w' = w.drewN m := by
  obtain ⟨rfl, hm, hr⟩ := h
  obtain ⟨_, _, hr'⟩ := h'
  go_enter Try.func36, Try.ntmps36
  go_wp2
  go_loopw [5] (fun i wr => ∃ k : Nat, k ≤ xs.length ∧ i = .int .i64 k ∧ ∃ m, wr = w.drewN m) (fun i _ => xs.length - (intOf i).toNat)
  case atStart => exact ⟨0, Nat.zero_le _, rfl, 0, rfl⟩
  case round =>
    obtain ⟨k, hk, rfl, m, rfl⟩ := hrel
    by_cases hlt : k < xs.length
    · rcases hr with rfl | ⟨b, off, rfl, hb, hc⟩
      · simp at hlt
      rcases hr' with rfl | ⟨b', off', rfl, hb', hc'⟩
      · simp at hlt
      have hcell := hc k hlt
      have hcell' := hc' k hlt
      clear hc hc'
      go_wp2_with fail
      try go_quiet (fail)
      all_goals
        go_wp2
        go_roundw
        case rel => exact ⟨k + 1, by omega, by go_num, _, rfl⟩
        case measure => simp [intOf]; omega
    · go_wp2
      go_ret
      exact ⟨rfl, _, rfl⟩
end Go.Proofs.Ytajekmpjebhaoaa
