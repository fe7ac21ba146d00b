/- The count of zeros with few cells in use, and shares of small numbers: by values. -/
import Derived.Test.YtpbafacehmjdmaaRf
import Derived.Test.YtpbafacehmjdmaaZd
import Derived.Test.YtpbafacehmjdmaaFv
import Derived.Test.YtpbafacehmjdmaaFg
namespace Go.Proofs.Ytpbafacehmjdmaa
open Go.RowKit
open Ieee
set_option linter.unusedSimpArgs false
set_option linter.unusedVariables false
set_option maxRecDepth 100000

theorem vN : ∀ n : Nat, n < 257 → (rgF .f32 (FloatKind.f32.nearest (n : Int)) < FloatKind.f32.format.infRung ∧ vF .f32 (FloatKind.f32.nearest (n : Int)) = (n : Int) * 2 ^ 149) := by decide +kernel
theorem vT : ∀ n : Nat, n < 34 → ∃ t, czT (n : Int) = some t ∧ rgF .f32 t < FloatKind.f32.format.infRung ∧ 0 ≤ vF .f32 t ∧ vF .f32 t ≤ 2 ^ 149 ∧ (n = 0 → vF .f32 t = 2 ^ 149) := by
  have h : (List.range 34).all (fun n => match czT (n : Nat) with
    | some t => decide (rgF .f32 t < FloatKind.f32.format.infRung ∧ 0 ≤ vF .f32 t ∧ vF .f32 t ≤ 2 ^ 149 ∧ (n = 0 → vF .f32 t = 2 ^ 149))
    | none => false) = true := by decide +kernel
  intro n hn
  have := List.all_eq_true.1 h n (List.mem_range.2 hn)
  split at this
  · rename_i t ht
    exact ⟨t, ht, of_decide_eq_true this⟩
  · cases this
theorem czS_lo {cs : List Int} (hl : cs.length ≤ 256) (hb : ∀ x ∈ cs, 0 ≤ x ∧ x ≤ 33) : ∀ k, k ≤ cs.length → ∃ s, czS cs k = some s ∧ Fi .f32 s ∧ ((czP cs k : Nat) : Int) * 2 ^ 149 ≤ vF .f32 s ∧ vF .f32 s ≤ (k : Int) * 2 ^ 149
  | 0, _ => ⟨0, rfl, by unfold Fi; decide, by show ((0 : Nat) : Int) * 2 ^ 149 ≤ vF .f32 0; decide +kernel, by show vF .f32 0 ≤ ((0 : Nat) : Int) * 2 ^ 149; decide +kernel⟩
  | k + 1, hk => by
    obtain ⟨s, h1, h2, h3, h4⟩ := czS_lo hl hb k (by omega)
    have hx := hb _ (ix_mem cs k (by omega))
    obtain ⟨n, hn⟩ : ∃ n : Nat, ix cs k = (n : Int) := ⟨(ix cs k).toNat, by omega⟩
    obtain ⟨t, t1, t2, t3, t4, t5⟩ := vT n (by omega)
    have hst := czP_step cs k (by omega)
    have hple := czP_le cs (k + 1)
    obtain ⟨a1, a2⟩ := vN (czP cs (k + 1)) (by omega)
    obtain ⟨b1, b2⟩ := vN (k + 1) (by omega)
    obtain ⟨q, hq⟩ : ∃ q, czP cs k = q := ⟨_, rfl⟩
    obtain ⟨q', hq'⟩ : ∃ q', czP cs (k + 1) = q' := ⟨_, rfl⟩
    rw [hq] at h3 hst
    rw [hq'] at a1 a2 hst ⊢
    rw [hn] at hst
    have hlow : (q' : Int) * 2 ^ 149 ≤ vF .f32 s + vF .f32 t := by
      by_cases e : n = 0
      · have := t5 e
        rw [e] at hst
        simp at hst
        have : (q' : Int) = q + 1 := by omega
        rw [this, Int.add_mul, Int.one_mul]; omega
      · have hne : ((n : Int) == 0) = false := by simpa using e
        rw [hne] at hst
        simp at hst
        rw [hst]; omega
    have hup : vF .f32 s + vF .f32 t ≤ ((k + 1 : Nat) : Int) * 2 ^ 149 := by
      rw [show ((k + 1 : Nat) : Int) = (k : Int) + 1 by omega, Int.add_mul, Int.one_mul]; omega
    obtain ⟨z, z1, z2, z3, z4⟩ := add_bd (k := .f32) (x := s) (y := t) (lo := FloatKind.f32.nearest (q' : Int)) (hi := FloatKind.f32.nearest ((k + 1 : Nat) : Int)) h2 t2 a1 b1 (by rw [a2]; exact hlow) (by rw [b2]; exact hup)
    refine ⟨z, ?_, z2, by rw [a2] at z3; exact z3, by rw [b2] at z4; exact z4⟩
    rw [czS, h1, hn, t1]
    exact z1
theorem czN256 : ∃ w, czN 256 = some w ∧ rgF .f32 w < FloatKind.f32.format.infRung ∧ mag FloatKind.f32.format (rgF .f32 w) ≤ 92 * 2 ^ 149 * 2 ^ 9 ∧ sg .f32 w = false := by
  have h : (match czN 256 with
    | some w => decide (rgF .f32 w < FloatKind.f32.format.infRung ∧ mag FloatKind.f32.format (rgF .f32 w) ≤ 92 * 2 ^ 149 * 2 ^ 9 ∧ sg .f32 w = false)
    | none => false) = true := by decide +kernel
  split at h
  · rename_i w hw; exact ⟨w, hw, by simpa using h⟩
  · cases h
theorem m640 : opC .mul .f32 (some 1075838976) (czM 256) = some 1142947840 := by decide +kernel
theorem czB_ok {cs : List Int} (hl : cs.length = 256) (hb : ∀ x ∈ cs, 0 ≤ x ∧ x ≤ 33) (hP : 92 ≤ czP cs cs.length) : czB cs = true := by
  obtain ⟨w, w1, w2, w3, w4⟩ := czN256
  obtain ⟨s, s1, s2, s3, s4⟩ := czS_lo (by omega) hb cs.length (Nat.le_refl _)
  have hge : 92 * 2 ^ 149 ≤ vF .f32 s := Int.le_trans (Int.mul_le_mul_of_nonneg_right (by omega) (by decide)) s3
  have hsg : sg .f32 s = false := by
    cases e : sg .f32 s with
    | false => rfl
    | true =>
      rw [vF_neg e] at hge
      have : (0 : Int) < 92 * 2 ^ 149 := by decide
      omega
  rw [vF_pos hsg] at hge
  have hm : 92 * 2 ^ 149 ≤ mag FloatKind.f32.format (rgF .f32 s) := by
    have h : ((92 * 2 ^ 149 : Nat) : Int) ≤ ((mF .f32 s : Nat) : Int) := by exact_mod_cast hge
    exact Int.ofNat_le.1 h
  have hpos : 0 < rgF .f32 s := by
    rcases Nat.eq_zero_or_pos (rgF .f32 s) with h | h
    · rw [h] at hm
      have e0 : mag FloatKind.f32.format 0 = 0 := by decide +kernel
      rw [e0] at hm
      exact absurd hm (by decide)
    · exact h
  have e3 : mag FloatKind.f32.format 1140850688 = 2 ^ (lp .f32 + 9) := by decide +kernel
  obtain ⟨z, z1, z2, z3⟩ := div_le (k := .f32) (x := w) (y := s) (r := 1140850688) (c := 9) w2 s2 hpos (by decide) e3 (Nat.le_trans w3 (Nat.mul_le_mul_right _ hm))
  have hE : czE cs = some z := by unfold czE; rw [hl, w1, ← hl, s1]; exact z1
  unfold czB
  rw [hE, hl, m640, fLe_key]
  have k1 : key FloatKind.f32.format 1142947840 = 1142947840 := by decide
  have k2 : key FloatKind.f32.format z ≤ 1140850688 := by
    rcases key_cases .f32 z with h | h
    · rw [show key FloatKind.f32.format z = _ from h]; omega
    · rw [show key FloatKind.f32.format z = _ from h]; omega
  rw [hl] at hP
  rw [Bool.and_eq_true, decide_eq_true_eq, decide_eq_true_eq]
  exact ⟨by rw [show key FloatKind.f32.format 1142947840 = 1142947840 from k1]; omega, by omega⟩
/-! The counts, run. -/
def lgZ (w : Nat) : Option Nat := match (List.range 10).find? (fun k => lgB w k 256) with
  | some k => (cvC .f64 .f32 (lgR (lgH (some (wide w)) k) k)).bind id
  | none => none
def cvU (u : Nat) : Option Nat := match lgX 256 (256 - u) with
  | some w => opC .mul .f32 (czM 256) (lgZ w)
  | none => none
def chkU (u : Nat) : Bool := (match lgX 256 (256 - u) with
  | some w => ((List.range 10).find? fun k => lgB w k 256).isSome
  | none => false) && !fLt .f64 (cw (cvU u)) (opC .sub .f64 (some (FloatKind.f64.nearest (u : Int))) (some 4576918229304087675)) &&
    !fGt .f64 (cw (cvU u)) (opC .add .f64 (opC .mul .f64 (some 4608083138725491507) (some (FloatKind.f64.nearest (u : Int)))) (some 4591870180066957722)) && (decide (u ≠ 0) || fEq .f32 (cvU u) (some 0))
theorem chkU_all : (List.range 21).all chkU = true := by decide +kernel
theorem czV_few {cs : List Int} (hl : cs.length = 256) (hb : ∀ x ∈ cs, 0 ≤ x ∧ x ≤ 33) {u : Nat} (hu : u ≤ 20) (hP : czP cs cs.length = 256 - u) : czV cs = cvU u ∧ chkU u = true := by
  have hc := List.all_eq_true.1 chkU_all u (List.mem_range.2 (by omega))
  refine ⟨?_, hc⟩
  have hB := czB_ok hl hb (by omega)
  unfold czV
  rw [hB, hP, hl]
  unfold chkU at hc
  simp only [Bool.and_eq_true] at hc
  obtain ⟨⟨⟨h1, _⟩, _⟩, _⟩ := hc
  unfold cvU
  split at h1
  · rename_i w hw
    rw [hw]
    show opC .mul .f32 (czM 256) (lgF (some w)) = _
    obtain ⟨k, hk⟩ := Option.isSome_iff_exists.1 h1
    have hkb := List.find?_some hk
    have hk10 := List.mem_range.1 (List.mem_of_find?_eq_some hk)
    obtain ⟨z, hz, _⟩ := lgB_ok (by omega) hkb
    obtain ⟨k', z', e1, e2⟩ := lgF_ok hz
    have := lgOk_uniq hz e2
    subst this
    unfold lgZ
    rw [hk, e1]
    show _ = opC .mul .f32 (czM 256) ((cvC .f64 .f32 (lgR (lgH (some (wide w)) k) k)).bind id)
    rw [hz.hz]; rfl
  · cases h1
/-! Shares. -/
theorem share_one : ∀ n : Nat, n < 13 → 0 < n → fEq .f32 (opC .quo .f32 (some (FloatKind.f32.nearest (n : Int))) (some (FloatKind.f32.nearest (n : Int)))) (some 1065353216) = true := by decide +kernel
theorem share_in : ∀ n : Nat, n < 13 → 0 < n → ∀ p : Nat, p ≤ n → fLt .f32 (opC .quo .f32 (some (FloatKind.f32.nearest (p : Int))) (some (FloatKind.f32.nearest (n : Int)))) (some 0) = false ∧ fGt .f32 (opC .quo .f32 (some (FloatKind.f32.nearest (p : Int))) (some (FloatKind.f32.nearest (n : Int)))) (some 1065353216) = false := by
  have h : (List.range 13).all (fun n => (List.range (n + 1)).all fun p => n == 0 || !fLt .f32 (opC .quo .f32 (some (FloatKind.f32.nearest (p : Int))) (some (FloatKind.f32.nearest (n : Int)))) (some 0) && !fGt .f32 (opC .quo .f32 (some (FloatKind.f32.nearest (p : Int))) (some (FloatKind.f32.nearest (n : Int)))) (some 1065353216)) = true := by decide +kernel
  intro n hn h0 p hp
  have := List.all_eq_true.1 (List.all_eq_true.1 h n (List.mem_range.2 hn)) p (List.mem_range.2 (by omega))
  have hz : (n == 0) = false := by simp; omega
  rw [hz] at this
  simpa using this
end Go.Proofs.Ytpbafacehmjdmaa
