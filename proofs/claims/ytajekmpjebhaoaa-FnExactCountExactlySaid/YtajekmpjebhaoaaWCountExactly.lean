/- CountExactly. -/
import Derived.Test.YtajekmpjebhaoaaTimes
namespace Go.Proofs.Ytajekmpjebhaoaa
open Go.RowKit
set_option linter.unusedSimpArgs false
set_option linter.unusedVariables false

def cexT (xs : List Int) (bs : List Bool) (t l : Int) (i : Nat) : Bool := ix bs i && (decide (t - l < ix xs i) && decide (ix xs i ≤ t))
def cex (xs : List Int) (bs : List Bool) (t l : Int) (k : Nat) : Nat := ((List.range k).filter (cexT xs bs t l)).length
theorem cex_succ (xs : List Int) (bs : List Bool) (t l : Int) (k : Nat) : cex xs bs t l (k + 1) = cex xs bs t l k + if cexT xs bs t l k then 1 else 0 := by
  unfold cex
  rw [List.range_succ, List.filter_append, List.length_append]
  cases e : cexT xs bs t l k <;> simp [List.filter_cons, e]
theorem cex_le (xs : List Int) (bs : List Bool) (t l : Int) (k : Nat) : cex xs bs t l k ≤ k := by
  have := List.length_filter_le (cexT xs bs t l) (List.range k); simpa [cex] using this

def cexOk (xs : List Int) (n : Nat) (t l : Int) : Bool := timesB xs && (inB xs.length 1 128 && (decide (n = xs.length) && (inB t 0 1000000 && inB l 1 1000000)))

def cexRes (xs : List Int) (bs : List Bool) (t l : Int) : Ending := if cexOk xs bs.length t l then .returned (.tuple #[.int .i64 (cex xs bs t l xs.length : Nat), .bool true]) else .returned (.tuple #[.int .i64 0, .bool false])

theorem inB_iff (n lo hi : Int) : inB n lo hi = true ↔ lo ≤ n ∧ n ≤ hi := by unfold inB; simp

set_option maxHeartbeats 2000000 in
theorem sCountExactly_any (a : Option Addr) (n c : Nat) (xs : List Int) (a' : Option Addr) (n' c' : Nat) (bs : List Bool) (t l : Int) (w : World) (h : Rd w (.int .i64) a n xs) (h' : Rd w Value.bool a' n' bs) :
    Calls Try.prog 31 #[.slice a n c, .slice a' n' c', .int .i64 t, .int .i64 l] w fun e w' => e = cexRes xs bs t l ∧ ∃ m, w' = w.drewN m := by
  have HX := Lib.hid h
  obtain ⟨hx0, hm, hr⟩ := h
  obtain ⟨hb0, hm', hr'⟩ := h'
  subst hx0
  subst hb0
  unfold cexRes cexOk
  cases eT : timesB xs
  · go_enter Try.func31, Try.ntmps31
    go_wp2_with (first | (go_at_call 77; refine (l06Times_any a _ c xs _ HX.out).mono ?_; rintro e w' ⟨rfl, m, rfl⟩) | (go_at_call 78; refine (l06Time_any _ _).mono ?_; rintro e w' ⟨rfl, hsame⟩; obtain rfl := hsame.symm) | (go_at_call 79; refine (l00In_any _ _ _ _).mono ?_; rintro e w' ⟨rfl, hsame⟩; obtain rfl := hsame.symm))
    all_goals go_ret2
    all_goals exact ⟨by simp, _, rfl⟩
  cases eS : inB xs.length 1 128
  · go_enter Try.func31, Try.ntmps31
    go_wp2_with (first | (go_at_call 77; refine (l06Times_any a _ c xs _ HX.out).mono ?_; rintro e w' ⟨rfl, m, rfl⟩) | (go_at_call 78; refine (l06Time_any _ _).mono ?_; rintro e w' ⟨rfl, hsame⟩; obtain rfl := hsame.symm) | (go_at_call 79; refine (l00In_any _ _ _ _).mono ?_; rintro e w' ⟨rfl, hsame⟩; obtain rfl := hsame.symm))
    all_goals go_ret2
    all_goals exact ⟨by simp, _, rfl⟩
  by_cases eL : bs.length = xs.length
  rotate_left
  · have hL : (((bs.length : Nat) : Int) != ((xs.length : Nat) : Int)) = true := by simp; omega
    go_enter Try.func31, Try.ntmps31
    go_wp2_with (first | (go_at_call 77; refine (l06Times_any a _ c xs _ HX.out).mono ?_; rintro e w' ⟨rfl, m, rfl⟩) | (go_at_call 78; refine (l06Time_any _ _).mono ?_; rintro e w' ⟨rfl, hsame⟩; obtain rfl := hsame.symm) | (go_at_call 79; refine (l00In_any _ _ _ _).mono ?_; rintro e w' ⟨rfl, hsame⟩; obtain rfl := hsame.symm))
    all_goals go_ret2
    all_goals exact ⟨by simp, _, rfl⟩
  have HL := Lib.hid eL
  have hL : (((bs.length : Nat) : Int) != ((xs.length : Nat) : Int)) = false := by simp; omega
  clear eL
  cases eM : inB t 0 1000000
  · go_enter Try.func31, Try.ntmps31
    go_wp2_with (first | (go_at_call 77; refine (l06Times_any a _ c xs _ HX.out).mono ?_; rintro e w' ⟨rfl, m, rfl⟩) | (go_at_call 78; refine (l06Time_any _ _).mono ?_; rintro e w' ⟨rfl, hsame⟩; obtain rfl := hsame.symm) | (go_at_call 79; refine (l00In_any _ _ _ _).mono ?_; rintro e w' ⟨rfl, hsame⟩; obtain rfl := hsame.symm))
    all_goals go_ret2
    all_goals exact ⟨by simp, _, rfl⟩
  cases eG : inB l 1 1000000
  · go_enter Try.func31, Try.ntmps31
    go_wp2_with (first | (go_at_call 77; refine (l06Times_any a _ c xs _ HX.out).mono ?_; rintro e w' ⟨rfl, m, rfl⟩) | (go_at_call 78; refine (l06Time_any _ _).mono ?_; rintro e w' ⟨rfl, hsame⟩; obtain rfl := hsame.symm) | (go_at_call 79; refine (l00In_any _ _ _ _).mono ?_; rintro e w' ⟨rfl, hsame⟩; obtain rfl := hsame.symm))
    all_goals go_ret2
    all_goals exact ⟨by simp, _, rfl⟩
  have HA : Hid (xs.all (inB · 0 1000000) = true) := by
    have := eT; unfold timesB at this; rw [Bool.and_eq_true] at this; exact this.1
  have g1 := (inB_iff _ _ _).1 eM
  have g2 := (inB_iff _ _ _).1 eG
  have HDL : Hid (decide (bs.length = xs.length) = true) := decide_eq_true HL.out
  · go_enter Try.func31, Try.ntmps31
    go_wp2_with (first | (go_at_call 77; refine (l06Times_any a _ c xs _ HX.out).mono ?_; rintro e w' ⟨rfl, m, rfl⟩) | (go_at_call 78; refine (l06Time_any _ _).mono ?_; rintro e w' ⟨rfl, hsame⟩; obtain rfl := hsame.symm) | (go_at_call 79; refine (l00In_any _ _ _ _).mono ?_; rintro e w' ⟨rfl, hsame⟩; obtain rfl := hsame.symm))
    have W0 : Hid (∃ m', w.drewN m = w.drewN m') := ⟨m, rfl⟩
    try rw [HDL.out]
    go_loopw [10, 11] (fun c i wr => ∃ k : Nat, k ≤ xs.length ∧ i = .int .i64 k ∧ c = .int .i64 (cex xs bs t l k : Nat) ∧ Hid (∃ m, wr = w.drewN m)) (fun _ i _ => xs.length - (intOf i).toNat)
    case atStart => exact ⟨0, Nat.zero_le _, rfl, rfl, W0⟩
    case round =>
      obtain ⟨k, hk, rfl, rfl, hw⟩ := hrel
      have hle := cex_le xs bs t l k
      have HS := Lib.hid (cex_succ xs bs t l k)
      by_cases hlt : k < xs.length
      · rcases hr with rfl | ⟨b, off, rfl, hb, hc⟩
        · simp at hlt
        rcases hr' with rfl | ⟨b', off', rfl, hb', hc'⟩
        · have h0 := HL.out; simp only [List.length_nil] at h0; omega
        have hlt' : k < bs.length := by have := HL.out; omega
        have hcell := (drw_cell hw.out ⟨b, off + k, none⟩).trans (hc k hlt)
        have hcell' := (drw_cell hw.out ⟨b', off' + k, none⟩).trans (hc' k hlt')
        have hbnd := (inB_iff _ _ _).1 ((all_ix xs _).1 HA.out k hlt)
        clear hc hc'
        cases e1 : ix bs k
        · have HT : Hid (cexT xs bs t l k = false) := by show cexT xs bs t l k = false; unfold cexT; rw [e1]; rfl
          go_wp2
          go_roundw
          case rel => exact ⟨k + 1, by omega, by go_num, by rw [HS.out, HT.out]; first | rfl | go_num, hw⟩
          case measure => simp [intOf]; omega
        · by_cases e2 : t - l < ix xs k
          · by_cases e3 : ix xs k ≤ t
            · have HT : Hid (cexT xs bs t l k = true) := by show cexT xs bs t l k = true; unfold cexT; rw [e1, decide_eq_true e2, decide_eq_true e3]; rfl
              go_wp2
              go_roundw
              case rel => exact ⟨k + 1, by omega, by go_num, by rw [HS.out, HT.out]; first | rfl | go_num, hw⟩
              case measure => simp [intOf]; omega
            · have HT : Hid (cexT xs bs t l k = false) := by show cexT xs bs t l k = false; unfold cexT; rw [e1, decide_eq_true e2, decide_eq_false e3]; rfl
              go_wp2
              go_roundw
              case rel => exact ⟨k + 1, by omega, by go_num, by rw [HS.out, HT.out]; first | rfl | go_num, hw⟩
              case measure => simp [intOf]; omega
          · have HT : Hid (cexT xs bs t l k = false) := by show cexT xs bs t l k = false; unfold cexT; rw [e1, decide_eq_false e2]; rfl
            go_wp2
            go_roundw
            case rel => exact ⟨k + 1, by omega, by go_num, by rw [HS.out, HT.out]; first | rfl | go_num, hw⟩
            case measure => simp [intOf]; omega
      · have he : k = xs.length := by omega
        subst he
        go_wp2
        all_goals go_ret2
        all_goals exact ⟨rfl, hw.out⟩
set_option maxHeartbeats 2000000 in
theorem iCountExactly_any (a : Option Addr) (n c : Nat) (xs : List Int) (a' : Option Addr) (n' c' : Nat) (bs : List Bool) (t l : Int) (w : World) (h : Rd w (.int .i64) a n xs) (h' : Rd w Value.bool a' n' bs) :
    Calls Try.prog 34 #[.slice a n c, .slice a' n' c', .int .i64 t, .int .i64 l] w fun e w' => e = cexRes xs bs t l ∧ Below w.heap.size w w' := by
  have HX := Lib.hid h
  obtain ⟨hx0, hm, hr⟩ := h
  obtain ⟨hb0, hm', hr'⟩ := h'
  subst hx0
  subst hb0
  unfold cexRes cexOk
  cases eS : inB xs.length 1 128
  · go_enter Try.func34, Try.ntmps34
    go_wp2_with (first | (go_at_call 80; refine (isStream_any _ _).mono ?_; rintro e w' ⟨rfl, hsame⟩; obtain rfl := hsame.symm) | (go_at_call 81; refine (areTimes_any a _ c xs _ HX.out).mono ?_; rintro e w' ⟨rfl, hb⟩) | (go_at_call 67; refine (isTime_any _ _).mono ?_; rintro e w' ⟨rfl, hsame⟩; obtain rfl := hsame.symm) | (go_at_call 82; refine (within_any _ _ _ _).mono ?_; rintro e w' ⟨rfl, hsame⟩; obtain rfl := hsame.symm))
    all_goals go_ret2
    all_goals exact ⟨by simp, by (repeat (first | exact Below.refl _ _ | assumption | apply Below.drew | apply below_drewN' | apply below_alloc' | refine below_next ?_ (by assumption) | refine Below.setCell ?_ (by first | omega | (simp; omega) | simp) _))⟩
  by_cases eL : bs.length = xs.length
  rotate_left
  · have hL : (((bs.length : Nat) : Int) != ((xs.length : Nat) : Int)) = true := by simp; omega
    go_enter Try.func34, Try.ntmps34
    go_wp2_with (first | (go_at_call 80; refine (isStream_any _ _).mono ?_; rintro e w' ⟨rfl, hsame⟩; obtain rfl := hsame.symm) | (go_at_call 81; refine (areTimes_any a _ c xs _ HX.out).mono ?_; rintro e w' ⟨rfl, hb⟩) | (go_at_call 67; refine (isTime_any _ _).mono ?_; rintro e w' ⟨rfl, hsame⟩; obtain rfl := hsame.symm) | (go_at_call 82; refine (within_any _ _ _ _).mono ?_; rintro e w' ⟨rfl, hsame⟩; obtain rfl := hsame.symm))
    all_goals go_ret2
    all_goals exact ⟨by simp, by (repeat (first | exact Below.refl _ _ | assumption | apply Below.drew | apply below_drewN' | apply below_alloc' | refine below_next ?_ (by assumption) | refine Below.setCell ?_ (by first | omega | (simp; omega) | simp) _))⟩
  have HL := Lib.hid eL
  have hL : (((bs.length : Nat) : Int) != ((xs.length : Nat) : Int)) = false := by simp; omega
  clear eL
  cases eT : timesB xs
  · go_enter Try.func34, Try.ntmps34
    go_wp2_with (first | (go_at_call 80; refine (isStream_any _ _).mono ?_; rintro e w' ⟨rfl, hsame⟩; obtain rfl := hsame.symm) | (go_at_call 81; refine (areTimes_any a _ c xs _ HX.out).mono ?_; rintro e w' ⟨rfl, hb⟩) | (go_at_call 67; refine (isTime_any _ _).mono ?_; rintro e w' ⟨rfl, hsame⟩; obtain rfl := hsame.symm) | (go_at_call 82; refine (within_any _ _ _ _).mono ?_; rintro e w' ⟨rfl, hsame⟩; obtain rfl := hsame.symm))
    all_goals go_ret2
    all_goals exact ⟨by simp, by (repeat (first | exact Below.refl _ _ | assumption | apply Below.drew | apply below_drewN' | apply below_alloc' | refine below_next ?_ (by assumption) | refine Below.setCell ?_ (by first | omega | (simp; omega) | simp) _))⟩
  cases eM : inB t 0 1000000
  · go_enter Try.func34, Try.ntmps34
    go_wp2_with (first | (go_at_call 80; refine (isStream_any _ _).mono ?_; rintro e w' ⟨rfl, hsame⟩; obtain rfl := hsame.symm) | (go_at_call 81; refine (areTimes_any a _ c xs _ HX.out).mono ?_; rintro e w' ⟨rfl, hb⟩) | (go_at_call 67; refine (isTime_any _ _).mono ?_; rintro e w' ⟨rfl, hsame⟩; obtain rfl := hsame.symm) | (go_at_call 82; refine (within_any _ _ _ _).mono ?_; rintro e w' ⟨rfl, hsame⟩; obtain rfl := hsame.symm))
    all_goals go_ret2
    all_goals exact ⟨by simp, by (repeat (first | exact Below.refl _ _ | assumption | apply Below.drew | apply below_drewN' | apply below_alloc' | refine below_next ?_ (by assumption) | refine Below.setCell ?_ (by first | omega | (simp; omega) | simp) _))⟩
  cases eG : inB l 1 1000000
  · go_enter Try.func34, Try.ntmps34
    go_wp2_with (first | (go_at_call 80; refine (isStream_any _ _).mono ?_; rintro e w' ⟨rfl, hsame⟩; obtain rfl := hsame.symm) | (go_at_call 81; refine (areTimes_any a _ c xs _ HX.out).mono ?_; rintro e w' ⟨rfl, hb⟩) | (go_at_call 67; refine (isTime_any _ _).mono ?_; rintro e w' ⟨rfl, hsame⟩; obtain rfl := hsame.symm) | (go_at_call 82; refine (within_any _ _ _ _).mono ?_; rintro e w' ⟨rfl, hsame⟩; obtain rfl := hsame.symm))
    all_goals go_ret2
    all_goals exact ⟨by simp, by (repeat (first | exact Below.refl _ _ | assumption | apply Below.drew | apply below_drewN' | apply below_alloc' | refine below_next ?_ (by assumption) | refine Below.setCell ?_ (by first | omega | (simp; omega) | simp) _))⟩
  have HA : Hid (xs.all (inB · 0 1000000) = true) := by
    have := eT; unfold timesB at this; rw [Bool.and_eq_true] at this; exact this.1
  have g1 := (inB_iff _ _ _).1 eM
  have g2 := (inB_iff _ _ _).1 eG
  have HDL : Hid (decide (bs.length = xs.length) = true) := decide_eq_true HL.out
  · go_enter Try.func34, Try.ntmps34
    go_wp2_with (first | (go_at_call 80; refine (isStream_any _ _).mono ?_; rintro e w' ⟨rfl, hsame⟩; obtain rfl := hsame.symm) | (go_at_call 81; refine (areTimes_any a _ c xs _ HX.out).mono ?_; rintro e w' ⟨rfl, hb⟩) | (go_at_call 67; refine (isTime_any _ _).mono ?_; rintro e w' ⟨rfl, hsame⟩; obtain rfl := hsame.symm) | (go_at_call 82; refine (within_any _ _ _ _).mono ?_; rintro e w' ⟨rfl, hsame⟩; obtain rfl := hsame.symm))
    have W0 : Hid (Below w.heap.size w w') := hb
    try rw [HDL.out]
    go_loopw [10, 41] (fun c i wr => ∃ k : Nat, k ≤ xs.length ∧ i = .int .i64 k ∧ c = .int .i64 (cex xs bs t l k : Nat) ∧ Hid (Below w.heap.size w wr)) (fun _ i _ => xs.length - (intOf i).toNat)
    case atStart => exact ⟨0, Nat.zero_le _, rfl, rfl, W0⟩
    case round =>
      obtain ⟨k, hk, rfl, rfl, hw⟩ := hrel
      have hle := cex_le xs bs t l k
      have HS := Lib.hid (cex_succ xs bs t l k)
      by_cases hlt : k < xs.length
      · rcases hr with rfl | ⟨b, off, rfl, hb, hc⟩
        · simp at hlt
        rcases hr' with rfl | ⟨b', off', rfl, hb', hc'⟩
        · have h0 := HL.out; simp only [List.length_nil] at h0; omega
        have hlt' : k < bs.length := by have := HL.out; omega
        have hcell := (hw.out.cell (p := ⟨b, off + k, none⟩) hb).trans (hc k hlt)
        have hcell' := (hw.out.cell (p := ⟨b', off' + k, none⟩) hb').trans (hc' k hlt')
        have hbnd := (inB_iff _ _ _).1 ((all_ix xs _).1 HA.out k hlt)
        clear hc hc'
        cases e1 : ix bs k
        · have HT : Hid (cexT xs bs t l k = false) := by show cexT xs bs t l k = false; unfold cexT; rw [e1]; rfl
          go_wp2
          go_roundw
          case rel => exact ⟨k + 1, by omega, by go_num, by rw [HS.out, HT.out]; first | rfl | go_num, hw⟩
          case measure => simp [intOf]; omega
        · by_cases e2 : t - l < ix xs k
          · by_cases e3 : ix xs k ≤ t
            · have HT : Hid (cexT xs bs t l k = true) := by show cexT xs bs t l k = true; unfold cexT; rw [e1, decide_eq_true e2, decide_eq_true e3]; rfl
              go_wp2
              go_roundw
              case rel => exact ⟨k + 1, by omega, by go_num, by rw [HS.out, HT.out]; first | rfl | go_num, hw⟩
              case measure => simp [intOf]; omega
            · have HT : Hid (cexT xs bs t l k = false) := by show cexT xs bs t l k = false; unfold cexT; rw [e1, decide_eq_true e2, decide_eq_false e3]; rfl
              go_wp2
              go_roundw
              case rel => exact ⟨k + 1, by omega, by go_num, by rw [HS.out, HT.out]; first | rfl | go_num, hw⟩
              case measure => simp [intOf]; omega
          · have HT : Hid (cexT xs bs t l k = false) := by show cexT xs bs t l k = false; unfold cexT; rw [e1, decide_eq_false e2]; rfl
            go_wp2
            go_roundw
            case rel => exact ⟨k + 1, by omega, by go_num, by rw [HS.out, HT.out]; first | rfl | go_num, hw⟩
            case measure => simp [intOf]; omega
      · have he : k = xs.length := by omega
        subst he
        go_wp2
        all_goals go_ret2
        all_goals exact ⟨rfl, hw.out⟩
end Go.Proofs.Ytajekmpjebhaoaa
