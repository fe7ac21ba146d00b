/- The logarithms that the count of zeros asks for: each of them is run. -/
import Derived.Test.YtpbafacehmjdmaaZb
import Derived.Test.YtpbafacehmjdmaaFz
namespace Go.Proofs.Ytpbafacehmjdmaa
open Go.RowKit
set_option linter.unusedSimpArgs false
set_option linter.unusedVariables false
set_option maxRecDepth 100000

theorem lgC16 : (List.range 16).all (fun e => lgChk 16 (e + 1)) = true := by decide +kernel
theorem lgC32 : (List.range 32).all (fun e => lgChk 32 (e + 1)) = true := by decide +kernel
theorem lgC64 : (List.range 64).all (fun e => lgChk 64 (e + 1)) = true := by decide +kernel
theorem lgC128 : (List.range 128).all (fun e => lgChk 128 (e + 1)) = true := by decide +kernel
theorem lgC256 : (List.range 256).all (fun e => lgChk 256 (e + 1)) = true := by decide +kernel
theorem lgC_all {m e : Nat} (hm : m = 16 ∨ m = 32 ∨ m = 64 ∨ m = 128 ∨ m = 256) (h0 : 0 < e) (h1 : e ≤ m) : ∃ w k z, lgX m e = some w ∧ LgOk w k z ∧ finO (opC .mul .f32 (some (FloatKind.f32.nearest m)) (some z)) = true := by
  refine lgChk_ok ?_
  obtain ⟨e', rfl⟩ : ∃ e', e = e' + 1 := ⟨e - 1, by omega⟩
  rcases hm with rfl | rfl | rfl | rfl | rfl
  · exact List.all_eq_true.1 lgC16 e' (List.mem_range.2 (by omega))
  · exact List.all_eq_true.1 lgC32 e' (List.mem_range.2 (by omega))
  · exact List.all_eq_true.1 lgC64 e' (List.mem_range.2 (by omega))
  · exact List.all_eq_true.1 lgC128 e' (List.mem_range.2 (by omega))
  · exact List.all_eq_true.1 lgC256 e' (List.mem_range.2 (by omega))
/-! The sum of the cells. -/
def czT (n : Int) : Option Nat := opC .quo .f32 (some 1065353216) (some (FloatKind.f32.nearest (2 ^ n.toNat)))
def czS (cs : List Int) : Nat → Option Nat
  | 0 => some 0
  | k + 1 => opC .add .f32 (czS cs k) (czT (ix cs k))
theorem czT_ok : ∀ n : Nat, n < 34 → ∃ t, czT (n : Int) = some t ∧ 788529152 ≤ rgF .f32 t ∧ rgF .f32 t ≤ 1065353216 ∧ sg .f32 t = false := by
  have h : (List.range 34).all (fun n => match czT (n : Nat) with
    | some t => decide (788529152 ≤ rgF .f32 t ∧ rgF .f32 t ≤ 1065353216 ∧ sg .f32 t = false)
    | none => false) = true := by decide +kernel
  intro n hn
  have := List.all_eq_true.1 h n (List.mem_range.2 hn)
  split at this
  · rename_i t ht
    exact ⟨t, ht, by simpa using this⟩
  · cases this
theorem mag_near : ∀ k : Nat, k < 257 → mag FloatKind.f32.format (FloatKind.f32.nearest (k : Int)) = k * 2 ^ 149 ∧ FloatKind.f32.nearest (k : Int) ≤ 1132462080 := by decide +kernel
theorem inf32 : FloatKind.f32.format.infRung = 2139095040 := by decide
theorem czS_ok {cs : List Int} (hl : cs.length ≤ 256) (hb : ∀ x ∈ cs, 0 ≤ x ∧ x ≤ 33) : ∀ k, k ≤ cs.length → ∃ s, czS cs k = some s ∧ rgF .f32 s ≤ FloatKind.f32.nearest (k : Int) ∧ sg .f32 s = false ∧ (0 < k → 788529152 ≤ rgF .f32 s)
  | 0, _ => ⟨0, rfl, by decide, by decide, fun h => absurd h (by omega)⟩
  | k + 1, hk => by
    obtain ⟨s, h1, h2, h3, h4⟩ := czS_ok hl hb k (by omega)
    have hx := hb _ (ix_mem cs k (by omega))
    obtain ⟨n, hn⟩ : ∃ n : Nat, ix cs k = (n : Int) := ⟨(ix cs k).toNat, by omega⟩
    obtain ⟨t, t1, t2, t3, t4⟩ := czT_ok n (by omega)
    obtain ⟨m1, m2⟩ := mag_near k (by omega)
    obtain ⟨m3, m4⟩ := mag_near (k + 1) (by omega)
    have i32 := inf32
    have hone : mag FloatKind.f32.format 1065353216 = 2 ^ 149 := by decide +kernel
    have ms := mag_le FloatKind.f32.format h2
    have mt := mag_le FloatKind.f32.format t3
    obtain ⟨z, z1, z2, z3, z4, z5⟩ := add_pos (k := .f32) (x := s) (y := t) (r := FloatKind.f32.nearest ((k + 1 : Nat) : Int)) (by omega) (by omega) h3 t4 (by omega) (by
      rw [m1] at ms; rw [hone] at mt; rw [m3, Nat.add_mul, Nat.one_mul]; exact Nat.add_le_add ms mt)
    refine ⟨z, ?_, z2, z5, fun _ => by omega⟩
    rw [czS, h1, hn, t1]
    exact z1
def czM (m : Nat) : Option Nat := some (FloatKind.f32.nearest (m : Int))
def czN (m : Nat) : Option Nat := opC .mul .f32 (opC .mul .f32 (opC .quo .f32 (some 1060677406) (opC .add .f32 (some 1065353216) (opC .quo .f32 (some 1066015916) (czM m)))) (czM m)) (czM m)
def czE (cs : List Int) : Option Nat := opC .quo .f32 (czN cs.length) (czS cs cs.length)
theorem czN_ok {m : Nat} (hm : m = 16 ∨ m = 32 ∨ m = 64 ∨ m = 128 ∨ m = 256) : ∃ w, czN m = some w ∧ rgF .f32 w ≤ 1207959552 ∧ sg .f32 w = false := by
  have key : ∀ m ∈ [16, 32, 64, 128, 256], (match czN m with
    | some w => decide (rgF .f32 w ≤ 1207959552 ∧ sg .f32 w = false)
    | none => false) = true := by decide +kernel
  have := key m (by simpa using hm)
  split at this
  · rename_i w hw
    exact ⟨w, hw, by simpa using this⟩
  · cases this
theorem czE_fin {cs : List Int} (hm : cs.length = 16 ∨ cs.length = 32 ∨ cs.length = 64 ∨ cs.length = 128 ∨ cs.length = 256) (hb : ∀ x ∈ cs, 0 ≤ x ∧ x ≤ 33) : finO (czE cs) = true := by
  obtain ⟨w, w1, w2, w3⟩ := czN_ok hm
  obtain ⟨s, s1, s2, s3, s4⟩ := czS_ok (by omega) hb cs.length (Nat.le_refl _)
  have s5 := s4 (by omega)
  obtain ⟨m1, m2⟩ := mag_near cs.length (by omega)
  have i32 := inf32
  have a1 := mag_le FloatKind.f32.format w2
  have a2 := mag_le FloatKind.f32.format s5
  have e1 : mag FloatKind.f32.format 1207959552 = 2 ^ 116 * 2 ^ 50 := by decide +kernel
  have e2 : mag FloatKind.f32.format 788529152 = 2 ^ 116 := by decide +kernel
  have e3 : mag FloatKind.f32.format 1484783616 = 2 ^ (lp .f32 + 50) := by decide +kernel
  obtain ⟨z, z1, z2, z3⟩ := div_le (k := .f32) (x := w) (y := s) (r := 1484783616) (c := 50) (by omega) (by omega) (by omega) (by omega) e3 (by
    rw [e1] at a1; rw [e2] at a2
    exact Nat.le_trans a1 (Nat.mul_le_mul_right _ a2))
  have : czE cs = some z := by unfold czE; rw [w1, s1]; exact z1
  rw [this]
  unfold finO finB
  have : z % FloatKind.f32.format.signWeight = rgF .f32 z := rfl
  simp only [decide_eq_true_eq]
  omega
end Go.Proofs.Ytpbafacehmjdmaa
