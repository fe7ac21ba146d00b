/- The laws' own helpers: a result is marked, and the marks are held. -/
import Derived.Test.YtajekmpjebhaoaaTo
namespace Go.Proofs.Ytajekmpjebhaoaa
open Go.RowKit
set_option linter.unusedSimpArgs false
set_option linter.unusedVariables false

theorem own_blk {w : World} {base : Nat} {e : TypeId} {s : Nat} {a : Option Addr} {n m cap : Nat} {xs : List Value} (h : w.ownsRow base e s (.slice a n cap) m xs) : ∀ ad, a = some ad → base ≤ ad.block ∧ ad.block < w.heap.size := by
  intro ad e; subst e; exact h.lt _ rfl

theorem Rd.kept {α : Type} [Inhabited α] {w w' : World} {f : α → Value} {a : Option Addr} {n : Nat} {xs : List α} (h : Rd w f a n xs) {row : Option Nat} (hg : w.grownBy w' row) (hne : ∀ ad, a = some ad → some ad.block ≠ row) : Rd w' f a n xs := by
  obtain ⟨h1, h2, h3⟩ := h
  refine ⟨h1, h2, h3.imp id ?_⟩
  rintro ⟨b, off, rfl, hb, hc⟩
  exact ⟨b, off, rfl, Nat.lt_of_lt_of_le hb hg.size, fun i hi => hg.cell (hc i hi) (hne ⟨b, off, none⟩ rfl)⟩

theorem own_rd' {α : Type} [Inhabited α] {w : World} {base : Nat} {e : TypeId} {a : Option Addr} {cap n : Nat} {f : α → Value} {xs : List α} (h : w.ownsRow base e 1 (.slice a n cap) n (xs.map f)) (hn : n ≤ 17592186044416) : Rd w f a n xs := by
  obtain ⟨a', cap', he, hr⟩ := own_rd h hn
  simp only [Value.slice.injEq] at he
  obtain ⟨rfl, _⟩ := he
  exact hr

theorem blk_of {lo hi : Nat} {a : Option Addr} (h : ∀ ad, a = some ad → lo ≤ ad.block ∧ ad.block < hi) {k : Nat} (hk : a.map (·.block) = some k) : lo ≤ k ∧ k < hi := by
  cases a with
  | none => cases hk
  | some ad => simp at hk; subst hk; exact h ad rfl
theorem blk_ne {m : Nat} {a b : Option Addr} (ha : ∀ ad, a = some ad → ad.block < m) (hb : ∀ ad, b = some ad → m ≤ ad.block) : ∀ ad, a = some ad → some ad.block ≠ b.map (·.block) := by
  intro ad e h
  have h1 := ha ad e
  cases b with
  | none => cases h
  | some bd => simp at h; have := hb bd rfl; omega
theorem blk_ne' {m : Nat} {a b : Option Addr} (ha : ∀ ad, a = some ad → m ≤ ad.block) (hb : ∀ ad, b = some ad → ad.block < m) : ∀ ad, a = some ad → some ad.block ≠ b.map (·.block) := by
  intro ad e h
  have h1 := ha ad e
  cases b with
  | none => cases h
  | some bd => simp at h; have := hb bd rfl; omega
theorem blk_ne2 {m : Nat} {a b : Option Addr} {n c : Nat} (ha : ∀ ad, a = some ad → m ≤ ad.block) (hb : ∀ ad, b = some ad → ad.block < m) : (Value.slice a n c).ownBlock = none ∨ (Value.slice a n c).ownBlock ≠ b.map (·.block) := by
  cases a with
  | none => exact Or.inl rfl
  | some ad => exact Or.inr (blk_ne' ha hb ad rfl)

theorem grown_trans {a b c : World} {row : Option Nat} (h : a.grownBy b row) (k : b.grownBy c row) : a.grownBy c row :=
  ⟨k.os.trans h.os, k.tape.trans h.tape, k.output.trans h.output, Nat.le_trans h.size k.size, fun i hi hr => (k.block i (Nat.lt_of_lt_of_le hi h.size) hr).trans (h.block i hi hr)⟩
theorem grown_refl (a : World) (row : Option Nat) : a.grownBy a row := ⟨rfl, rfl, rfl, Nat.le_refl _, fun _ _ _ => rfl⟩

theorem set_marks {α : Type} [Inhabited α] (ms xs : List α) (i : Nat) (hl : ms.length = xs.length) (hi : i < xs.length) : (ms.take i ++ xs.drop i).set i (ix ms i) = ms.take (i + 1) ++ xs.drop (i + 1) := by
  have h1 : (ms.take i).length = i := by simp; omega
  rw [List.set_append_right _ _ (by omega), h1, Nat.sub_self, take_ix ms i (by omega)]
  have h2 : xs.drop i = xs[i] :: xs.drop (i + 1) := by rw [List.drop_eq_getElem_cons hi]
  rw [h2, List.set_cons_zero]; simp

def mkInt64 (j : Int) : Int := j
def mkFloat32 (j : Int) : Nat := floatOfInt .f32 j
def mkBool (j : Int) : Bool := Int.tmod j 3 == 0

theorem neInt64 (j : Int) : (mkInt64 j != mkInt64 j) = false := by simp
theorem neFloat32 (j : Int) : (FloatKind.f32.format.order (mkFloat32 j) (mkFloat32 j) != some .eq) = false := by
  have : isNum .f32 (mkFloat32 j) = true := write_num .f32 (.number (j < 0) j.natAbs 0) rfl
  rw [order_self .f32 _ this]; rfl

def marksFloat32 (k : Int) (n : Nat) : List Nat := (List.range n).map fun i : Nat => mkFloat32 (k + (i : Int))
theorem marksFloat32_len (k : Int) (n : Nat) : (marksFloat32 k n).length = n := by simp [marksFloat32]
theorem marksFloat32_ix (k : Int) (n i : Nat) (h : i < n) : ix (marksFloat32 k n) i = mkFloat32 (k + i) := by
  rw [ix_eq _ _ (by rw [marksFloat32_len]; exact h)]; simp [marksFloat32]

set_option maxHeartbeats 1000000 in
theorem markFloat32S_any (a : Option Addr) (n cap : Nat) (xs : List Nat) (k : Int) (base : Nat) (w : World) (ho : w.ownsRow base 22 1 (.slice a n cap) n (xs.map (Value.float .f32))) (hk0 : 0 ≤ k) (hk1 : k ≤ 17592186044416) (hn : n ≤ 17592186044416) :
    Calls Try.prog 55 #[.slice a n cap, .int .i64 k] w fun e w' => e = .returned (.int .i64 (k + n)) ∧ w'.ownsRow base 22 1 (.slice a n cap) n ((marksFloat32 k n).map (Value.float .f32)) ∧ w.grownBy w' (a.map (·.block)) := by
  have hx : n = xs.length := by have := ho.1; simpa using this.symm
  have HX := Lib.hid hx
  have hml := marksFloat32_len k n
  have HML := Lib.hid hml
  have HMI := Lib.hid (marksFloat32_ix k n)
  have HO := Lib.hid ho
  clear hx hml ho
  go_enter Try.func55, Try.ntmps55
  go_wp2
  go_loopw [1, 5] (fun kk i wr => ∃ j : Nat, j ≤ n ∧ i = .int .i64 j ∧ kk = .int .i64 (k + j) ∧ Hid (wr.ownsRow base 22 1 (.slice a n cap) n (((marksFloat32 k n).take j ++ xs.drop j).map (Value.float .f32))) ∧ Hid (w.grownBy wr (a.map (·.block)))) (fun _ i _ => n - (intOf i).toNat)
  case atStart => exact ⟨0, Nat.zero_le _, rfl, congrArg (Value.int .i64) (by simp), (by simpa using HO.out : w.ownsRow base 22 1 (.slice a n cap) n (((marksFloat32 k n).take 0 ++ xs.drop 0).map (Value.float .f32))), grown_refl _ _⟩
  case round =>
    obtain ⟨j, hj, rfl, rfl, hown, hgr⟩ := hrel
    by_cases hlt : j < n
    · have hex : ∃ g, a = some ⟨g, 0, none⟩ := by
        rcases hown.out.2 with ⟨h1, h2⟩ | ⟨g, cap', cur, h1, _⟩
        · omega
        · simp only [Value.slice.injEq] at h1; exact ⟨g, h1.1⟩
      obtain ⟨g, rfl⟩ := hex
      have hfz := hown.out.frozenAt j
      have hcell : ∃ u, wr.cell? ⟨g, j, none⟩ = some u := by
        rw [hown.out.cellAt j (by omega)]
        refine ⟨_, List.getElem?_eq_getElem ?_⟩
        have := hown.out.1; omega
      obtain ⟨u, hcell⟩ := hcell
      have hst := hown.out.stored j (Value.float .f32 (mkFloat32 (k + j)))
      have he : ((((marksFloat32 k n).take j ++ xs.drop j).map (Value.float .f32)).set j (Value.float .f32 (mkFloat32 (k + j)))) = (((marksFloat32 k n).take (j + 1) ++ xs.drop (j + 1)).map (Value.float .f32)) := by
        rw [← HMI.out j hlt, ← List.map_set, set_marks _ _ j (by rw [HML.out, ← HX.out]) (by rw [← HX.out]; exact hlt)]
      have HS := Lib.hid (he ▸ hst.1)
      have HG := Lib.hid (grown_trans hgr.out hst.2)
      clear hst he
      go_wp2
      go_roundw
      case rel => exact ⟨j + 1, by omega, by go_num, congrArg (Value.int .i64) (by omega), HS.out, HG.out⟩
      case measure => simp [intOf]; omega
    · have he : j = n := by omega
      subst he
      go_wp2
      go_ret
      refine ⟨rfl, ?_, hgr.out⟩
      have := hown.out
      rw [List.take_of_length_le (by rw [HML.out]; omega), List.drop_of_length_le (by rw [← HX.out]; omega), List.append_nil] at this
      exact this
set_option maxHeartbeats 1000000 in
theorem heldFloat32S_any (a : Option Addr) (n cap : Nat) (k : Int) (w : World) (h : Rd w (Value.float .f32) a n (marksFloat32 k n)) (hk0 : 0 ≤ k) (hk1 : k ≤ 17592186044416) :
    Calls Try.prog 56 #[.slice a n cap, .int .i64 k] w fun e w' => e = .returned (.int .i64 (k + n)) ∧ ∃ m, w' = w.drewN m := by
  obtain ⟨hx, hn, hr⟩ := h
  have HX := Lib.hid hx
  have HMI := Lib.hid (marksFloat32_ix k n)
  clear hx
  go_enter Try.func56, Try.ntmps56
  go_wp2
  go_loopw [1, 5] (fun kk i wr => ∃ j : Nat, j ≤ n ∧ i = .int .i64 j ∧ kk = .int .i64 (k + j) ∧ ∃ m, wr = w.drewN m) (fun _ i _ => n - (intOf i).toNat)
  case atStart => exact ⟨0, Nat.zero_le _, rfl, congrArg (Value.int .i64) (by simp), 0, rfl⟩
  case round =>
    obtain ⟨j, hj, rfl, rfl, hw⟩ := hrel
    have HW := Lib.hid hw
    by_cases hlt : j < n
    · rcases hr with hr | ⟨b, off, rfl, hb, hc⟩
      · have := HX.out; rw [hr] at this; simp at this; omega
      have hcell := (drw_cell hw ⟨b, off + j, none⟩).trans (hc j (by rw [← HX.out]; exact hlt))
      rw [HMI.out j hlt] at hcell
      have hne := neFloat32 (k + j)
      clear hc hw
      unfold mkFloat32 at hcell hne
      go_wp2
      go_roundw
      case rel => exact ⟨j + 1, by omega, by go_num, congrArg (Value.int .i64) (by omega), HW.out⟩
      case measure => simp [intOf]; omega
    · have he : j = n := by omega
      subst he
      clear hw
      go_wp2
      go_ret
      exact ⟨rfl, HW.out⟩
def marksInt64 (k : Int) (n : Nat) : List Int := (List.range n).map fun i : Nat => mkInt64 (k + (i : Int))
theorem marksInt64_len (k : Int) (n : Nat) : (marksInt64 k n).length = n := by simp [marksInt64]
theorem marksInt64_ix (k : Int) (n i : Nat) (h : i < n) : ix (marksInt64 k n) i = mkInt64 (k + i) := by
  rw [ix_eq _ _ (by rw [marksInt64_len]; exact h)]; simp [marksInt64]

set_option maxHeartbeats 1000000 in
theorem markInt64S_any (a : Option Addr) (n cap : Nat) (xs : List Int) (k : Int) (base : Nat) (w : World) (ho : w.ownsRow base 2 1 (.slice a n cap) n (xs.map (Value.int .i64))) (hk0 : 0 ≤ k) (hk1 : k ≤ 17592186044416) (hn : n ≤ 17592186044416) :
    Calls Try.prog 59 #[.slice a n cap, .int .i64 k] w fun e w' => e = .returned (.int .i64 (k + n)) ∧ w'.ownsRow base 2 1 (.slice a n cap) n ((marksInt64 k n).map (Value.int .i64)) ∧ w.grownBy w' (a.map (·.block)) := by
  have hx : n = xs.length := by have := ho.1; simpa using this.symm
  have HX := Lib.hid hx
  have hml := marksInt64_len k n
  have HML := Lib.hid hml
  have HMI := Lib.hid (marksInt64_ix k n)
  have HO := Lib.hid ho
  clear hx hml ho
  go_enter Try.func59, Try.ntmps59
  go_wp2
  go_loopw [1, 5] (fun kk i wr => ∃ j : Nat, j ≤ n ∧ i = .int .i64 j ∧ kk = .int .i64 (k + j) ∧ Hid (wr.ownsRow base 2 1 (.slice a n cap) n (((marksInt64 k n).take j ++ xs.drop j).map (Value.int .i64))) ∧ Hid (w.grownBy wr (a.map (·.block)))) (fun _ i _ => n - (intOf i).toNat)
  case atStart => exact ⟨0, Nat.zero_le _, rfl, congrArg (Value.int .i64) (by simp), (by simpa using HO.out : w.ownsRow base 2 1 (.slice a n cap) n (((marksInt64 k n).take 0 ++ xs.drop 0).map (Value.int .i64))), grown_refl _ _⟩
  case round =>
    obtain ⟨j, hj, rfl, rfl, hown, hgr⟩ := hrel
    by_cases hlt : j < n
    · have hex : ∃ g, a = some ⟨g, 0, none⟩ := by
        rcases hown.out.2 with ⟨h1, h2⟩ | ⟨g, cap', cur, h1, _⟩
        · omega
        · simp only [Value.slice.injEq] at h1; exact ⟨g, h1.1⟩
      obtain ⟨g, rfl⟩ := hex
      have hfz := hown.out.frozenAt j
      have hcell : ∃ u, wr.cell? ⟨g, j, none⟩ = some u := by
        rw [hown.out.cellAt j (by omega)]
        refine ⟨_, List.getElem?_eq_getElem ?_⟩
        have := hown.out.1; omega
      obtain ⟨u, hcell⟩ := hcell
      have hst := hown.out.stored j (Value.int .i64 (mkInt64 (k + j)))
      have he : ((((marksInt64 k n).take j ++ xs.drop j).map (Value.int .i64)).set j (Value.int .i64 (mkInt64 (k + j)))) = (((marksInt64 k n).take (j + 1) ++ xs.drop (j + 1)).map (Value.int .i64)) := by
        rw [← HMI.out j hlt, ← List.map_set, set_marks _ _ j (by rw [HML.out, ← HX.out]) (by rw [← HX.out]; exact hlt)]
      have HS := Lib.hid (he ▸ hst.1)
      have HG := Lib.hid (grown_trans hgr.out hst.2)
      clear hst he
      go_wp2
      go_roundw
      case rel => exact ⟨j + 1, by omega, by go_num, congrArg (Value.int .i64) (by omega), HS.out, HG.out⟩
      case measure => simp [intOf]; omega
    · have he : j = n := by omega
      subst he
      go_wp2
      go_ret
      refine ⟨rfl, ?_, hgr.out⟩
      have := hown.out
      rw [List.take_of_length_le (by rw [HML.out]; omega), List.drop_of_length_le (by rw [← HX.out]; omega), List.append_nil] at this
      exact this
set_option maxHeartbeats 1000000 in
theorem heldInt64S_any (a : Option Addr) (n cap : Nat) (k : Int) (w : World) (h : Rd w (Value.int .i64) a n (marksInt64 k n)) (hk0 : 0 ≤ k) (hk1 : k ≤ 17592186044416) :
    Calls Try.prog 60 #[.slice a n cap, .int .i64 k] w fun e w' => e = .returned (.int .i64 (k + n)) ∧ ∃ m, w' = w.drewN m := by
  obtain ⟨hx, hn, hr⟩ := h
  have HX := Lib.hid hx
  have HMI := Lib.hid (marksInt64_ix k n)
  clear hx
  go_enter Try.func60, Try.ntmps60
  go_wp2
  go_loopw [1, 5] (fun kk i wr => ∃ j : Nat, j ≤ n ∧ i = .int .i64 j ∧ kk = .int .i64 (k + j) ∧ ∃ m, wr = w.drewN m) (fun _ i _ => n - (intOf i).toNat)
  case atStart => exact ⟨0, Nat.zero_le _, rfl, congrArg (Value.int .i64) (by simp), 0, rfl⟩
  case round =>
    obtain ⟨j, hj, rfl, rfl, hw⟩ := hrel
    have HW := Lib.hid hw
    by_cases hlt : j < n
    · rcases hr with hr | ⟨b, off, rfl, hb, hc⟩
      · have := HX.out; rw [hr] at this; simp at this; omega
      have hcell := (drw_cell hw ⟨b, off + j, none⟩).trans (hc j (by rw [← HX.out]; exact hlt))
      rw [HMI.out j hlt] at hcell
      have hne := neInt64 (k + j)
      clear hc hw
      unfold mkInt64 at hcell hne
      go_wp2
      go_roundw
      case rel => exact ⟨j + 1, by omega, by go_num, congrArg (Value.int .i64) (by omega), HW.out⟩
      case measure => simp [intOf]; omega
    · have he : j = n := by omega
      subst he
      clear hw
      go_wp2
      go_ret
      exact ⟨rfl, HW.out⟩
end Go.Proofs.Ytajekmpjebhaoaa
