/- The place of a share of numbers, in the abstract machine. -/
import Derived.Test.YteejnmgjjefbiaaFg
import Derived.Test.YteejnmgjjefbiaaZo
namespace Go.Proofs.Yteejnmgjjefbiaa
open Go.RowKit
open Ieee
set_option linter.unusedSimpArgs false
set_option linter.unusedVariables false
set_option maxRecDepth 100000

theorem cut_le' {way : Toward} (hw : way = .up ∨ way = .zero) (neg : Bool) (n drop k : Nat) (h : n ≤ k * 2 ^ drop) : way.cut neg n drop ≤ k := by
  obtain ⟨b, hb, hz⟩ : ∃ b : Bool, way.cut neg n drop = n / 2 ^ min drop (n.log2 + 2) + b.toNat ∧ (n % 2 ^ min drop (n.log2 + 2) = 0 → b = false) := by
    unfold Toward.cut
    simp only [Nat.shiftLeft_eq, Nat.one_mul]
    rcases hw with rfl | rfl
    · exact ⟨_, rfl, fun h => by simp [h]⟩
    · exact ⟨_, rfl, fun h => rfl⟩
  rw [hb]
  have hbl := Bool.toNat_le b
  rcases Nat.le_total drop (n.log2 + 2) with hdl | hdl
  · rw [Nat.min_eq_left hdl] at hz ⊢
    have hgp : 0 < 2 ^ drop := Nat.two_pow_pos _
    have hd := Nat.div_add_mod n (2 ^ drop)
    have hm := Nat.mod_lt n hgp
    generalize 2 ^ drop = gap at *
    generalize n / gap = low at *
    generalize n % gap = rest at *
    have h1 : gap * low + rest ≤ gap * k := by rw [hd, Nat.mul_comm gap k]; exact h
    by_cases hr : rest = 0
    · rw [hz hr]
      have : low ≤ k := Nat.le_of_mul_le_mul_left (by omega : gap * low ≤ gap * k) hgp
      simpa using this
    · have : gap * low < gap * k := by omega
      have := Nat.lt_of_mul_lt_mul_left this
      omega
  · rw [Nat.min_eq_right hdl] at hz ⊢
    have hl : n < 2 ^ (n.log2 + 2) := Nat.lt_of_lt_of_le Nat.lt_log2_self (Nat.pow_le_pow_right (by omega) (by omega))
    rw [Nat.div_eq_of_lt hl]
    rw [Nat.mod_eq_of_lt hl] at hz
    rcases Nat.eq_zero_or_pos n with h0 | h0
    · rw [hz h0]; exact Nat.zero_le _
    · rcases Nat.eq_zero_or_pos k with hk | hk
      · rw [hk] at h; omega
      · omega
theorem amax2 (k : IntKind) (a b : Int) : aminmax (fun x y => if y > x then y else x) [.int k a, .int k b] = some (.int k (max a b)) := by
  simp only [aminmax, if_true, Option.some.injEq, LV.int.injEq, true_and]; split <;> omega
theorem amin2 (k : IntKind) (a b : Int) : aminmax (fun x y => if y < x then y else x) [.int k a, .int k b] = some (.int k (min a b)) := by
  simp only [aminmax, if_true, Option.some.injEq, LV.int.injEq, true_and]; split <;> omega
attribute [go_sem] amax2 amin2
def w24 : Nat := 4715268809856909312
theorem mag24 : mag FloatKind.f64.format w24 = 16777216 * 2 ^ lp .f64 := by decide +kernel
theorem mag24' : mag FloatKind.f64.format w24 = mag FloatKind.f32.format 1266679808 * 2 ^ dW := by decide +kernel
theorem w24_lt : w24 < FloatKind.f64.format.infRung := by decide
theorem whole_le {way : Toward} (hw : way = .up ∨ way = .zero) {w : Nat} (h : rgF .f64 w ≤ w24) : ∃ s M, (FloatKind.f64.format.read w).integral way = .number s M 0 ∧ M ≤ 16777216 := by
  obtain ⟨m, e, f⟩ := fin_of (k := .f64) (w := w) (Nat.lt_of_le_of_lt h w24_lt)
  rw [f.read]
  refine ⟨_, _, rfl, ?_⟩
  have hv := f.val
  have hm : m * 2 ^ e ≤ 16777216 * 2 ^ lp .f64 := by rw [hv, ← mag24]; exact mag_le _ h
  apply cut_le' hw
  rw [Nat.shiftLeft_eq]
  generalize lp .f64 = P at *
  rcases Nat.lt_or_ge e P with he | he
  · have e1 : (-((P : Nat) : Int) + (e : Int)).toNat = 0 := by omega
    have e2 : (-(-((P : Nat) : Int) + (e : Int))).toNat = P - e := by omega
    rw [e1, e2, Nat.pow_zero, Nat.mul_one]
    refine Nat.le_of_mul_le_mul_right (c := 2 ^ e) ?_ (Nat.two_pow_pos _)
    rw [Nat.mul_assoc, ← Nat.pow_add, show P - e + e = P by omega]
    exact hm
  · have e1 : (-((P : Nat) : Int) + (e : Int)).toNat = e - P := by omega
    have e2 : (-(-((P : Nat) : Int) + (e : Int))).toNat = 0 := by omega
    rw [e1, e2, Nat.pow_zero, Nat.mul_one]
    refine Nat.le_of_mul_le_mul_right (c := 2 ^ P) ?_ (Nat.two_pow_pos _)
    rw [Nat.mul_assoc, ← Nat.pow_add, show e - P + P = e by omega]
    exact hm
def ceilC (w : Nat) : Nat := FloatKind.f64.encode ((FloatKind.f64.decode w).integral .up)
theorem ceil_ok {w : Nat} (h : rgF .f64 w ≤ w24) : ∃ k, (FloatKind.f64.decode (ceilC w)).toInt .zero = some k ∧ -16777216 ≤ k ∧ k ≤ 16777216 := by
  obtain ⟨s, M, e1, h1⟩ := whole_le (way := .up) (Or.inl rfl) h
  have h2 : rgF .f64 (ceilC w) ≤ w24 := by
    have e2 : ceilC w = FloatKind.f64.format.write (.number s M 0) := by rw [← e1]; rfl
    rw [e2]
    exact (write_le .f64 s M 0 w24 (lp .f64) 0 (Nat.le_of_lt w24_lt) (by omega) (by rw [mag24, Nat.pow_zero, Nat.mul_one]; exact Nat.mul_le_mul_right _ h1)).1
  obtain ⟨t, N, e3, h3⟩ := whole_le (way := .zero) (Or.inr rfl) h2
  have e4 : (FloatKind.f64.decode (ceilC w)).toInt .zero = some (signed t N 0) := by
    unfold Datum.toInt
    have e5 : FloatKind.f64.decode (ceilC w) = FloatKind.f64.format.read (ceilC w) := rfl
    rw [e5, e3]
  refine ⟨_, e4, ?_⟩
  unfold signed
  simp only [Nat.shiftLeft_zero]
  split <;> omega
theorem share_le {w : Nat} {n : Int} (hw : U .f32 w) (h2 : -16777216 ≤ n) (h3 : n ≤ 16777216) : ∃ z, opC .mul .f32 (some w) (some (FloatKind.f32.nearest n)) = some z ∧ rgF .f32 z ≤ 1266679808 := by
  obtain ⟨z, e, hz⟩ := Umul_le (k := .f32) r24_lt (nearest_rg h2 h3) hw
  exact ⟨z, e, hz⟩
/-- The product, widened, made whole, as an integer. -/
def placeZ (w : Nat) (n : Int) : Nat := (opC .mul .f32 (some w) (some (FloatKind.f32.nearest n))).getD 0
def placeK (w : Nat) (n : Int) : Int := ((FloatKind.f64.decode (ceilC (wide (placeZ w n)))).toInt .zero).getD 0
def placeI (w : Nat) (n : Int) : Int := min (max 1 (placeK w n)) n
theorem placeI_in (w : Nat) {n : Int} (h : 1 ≤ n) : 1 ≤ placeI w n ∧ placeI w n ≤ n := by unfold placeI; omega
theorem place_ok {w : Nat} {n : Int} (hw : U .f32 w) (h2 : -16777216 ≤ n) (h3 : n ≤ 16777216) : ∃ z, opC .mul .f32 (some w) (some (FloatKind.f32.nearest n)) = some z ∧ z = placeZ w n ∧ isNum .f32 z = true ∧
    (FloatKind.f64.decode (ceilC (wide z))).toInt .zero = some (placeK w n) ∧ -16777216 ≤ placeK w n ∧ placeK w n ≤ 16777216 := by
  obtain ⟨z, e, hz⟩ := share_le hw h2 h3
  have hlt : rgF .f32 z < FloatKind.f32.format.infRung := Nat.lt_of_le_of_lt hz r24_lt
  have ez : placeZ w n = z := by unfold placeZ; rw [e]; rfl
  obtain ⟨k, ek, h4, h5⟩ := ceil_ok (w := wide z) (wide_le hlt 1266679808 w24 hz (Nat.le_of_lt w24_lt) mag24').1
  have ep : placeK w n = k := by unfold placeK; rw [ez, ek]; rfl
  exact ⟨z, e, ez.symm, (isNum_iff _ _).2 (Nat.le_of_lt hlt), by rw [ep]; exact ek, by rw [ep]; exact h4, by rw [ep]; exact h5⟩
theorem share_some' {h : Option Nat} (e : shareB h = true) : ∃ w, h = some w ∧ U .f32 w := by
  unfold shareB at e
  obtain ⟨g1, g2⟩ := Bool.and_eq_true_iff.1 e
  exact share_U g1 g2
theorem archCeil_c (w : Nat) (H : Hp) (h : isNum .f64 w = true) : FunH Try.prog 49 [.flt .f64 (some w)] H fun r H' => r = .flt .f64 (some (ceilC w)) ∧ H' = H := by
  intro w0 μ W cargs hR ha
  obtain ⟨v, rfl⟩ : ∃ v, cargs = #[v] := by
    have := ha.len
    obtain ⟨l⟩ := cargs
    match l, this with
    | [v], _ => exact ⟨v, rfl⟩
  obtain ⟨b, rfl, hb⟩ : ∃ b, v = .float .f64 b ∧ can .f64 b = some w := ha.1
  have hbw : b = w := by
    unfold can at hb
    split at hb
    · exact Option.some.inj hb
    · cases hb
  subst hbw
  rw [run_callFunc_extern Try.func49 (by kernel_rfl) (by kernel_rfl) (by kernel_rfl) (e := Extern.MathFloor.toIntegral "math.archCeil" .up) (by kernel_rfl)]
  have hc : can .f64 (ceilC b) = some (ceilC b) := by
    refine can_write .f64 _ ?_
    cases hd : FloatKind.f64.decode b with
    | nan s t => exact absurd hd (read_isNum h s t)
    | infinity s => rfl
    | number s m i => rfl
  have hr : (Extern.MathFloor.toIntegral "math.archCeil" .up #[.float .f64 b]).run Try.prog W = .ok (.float .f64 (ceilC b)) W := by
    unfold ceilC
    change Sem.run Try.prog (match FloatKind.f64.decode b with | .nan s t => _ | d => pure (Value.float .f64 (FloatKind.f64.encode (d.integral .up)))) W = _
    cases hd : FloatKind.f64.decode b with
    | nan s t => exact absurd hd (read_isNum h s t)
    | infinity s => rfl
    | number s m i => rfl
  rw [hr]
  exact ⟨.flt .f64 (some (ceilC b)), μ, H, hR, ⟨_, rfl, hc⟩, Ext.refl _ _, rfl, rfl⟩
theorem Ceil_c (w : Nat) (H : Hp) (h : isNum .f64 w = true) : FunH Try.prog 39 [.flt .f64 (some w)] H fun r H' => r = .flt .f64 (some (ceilC w)) ∧ H' = H := by
  (refine FunH_body tyOk Try.func39 rfl (by kernel_rfl) Try.ntmps39 (fun hcl hbd => ?_); simp only [List.length_cons, List.length_nil, Nat.reduceAdd, Nat.reduceSub, List.replicate, List.cons_append, List.nil_append])
  repeat' (first
    | ((with_reducible refine hK _ _ ?_); clear hK K)
    | ((first | (with_reducible show AOp _ _ _ _ _ _ _)); simp (disch := first | ((with_reducible show liveO _ _ _ = true); first | assumption | (exact liveO_setS (by assumption)) | (exact PtL.live (by assumption)) | (exact PtL.liveA (by assumption) _) | (simp only [go_sem]; done)) | omega | assumption | rfl | (simp only [go_sem]; first | done | omega)) only [go_sem, reduceIte, reduceCtorEq, Nat.reduceAdd, Nat.reduceMul, Nat.reduceSub, Nat.reduceLeDiff, Nat.lt_irrefl, Nat.reduceLT, Nat.reduceEqDiff, Nat.reduceBEq, Int.reduceLE, Int.reduceLT, Int.reduceToNat, w64, eq_self])
    | (with_reducible refine AW_seq (fun K hK => ?_))
    | (with_reducible refine AW_region tyOk ?_)
    | (with_reducible refine AOps_cons (fun K hK => ?_))
    | ((with_reducible refine AOps_nil ?_); try simp only [thenA, blockA, if_true, if_false, reduceIte, Nat.reduceEqDiff, reduceCtorEq])
    | (with_reducible refine AW_block ?_)
    | ((first | (with_reducible refine AW_ret ?_) | (with_reducible refine AW_skip ?_) | (with_reducible refine AW_exit ?_)); try simp only [thenA, blockA, if_true, if_false, reduceIte, Nat.reduceEqDiff, reduceCtorEq])
    | ((with_reducible show AW _ _ (.cond _ _ _) _ _ _); refine AW_cond rfl (fun hg => ?_) (fun hg => ?_) <;> first | (exfalso; simp only [reduceCtorEq] at hg; done) | ((try simp only [Bool.not_eq_true', Bool.not_eq_false', decide_eq_true_eq, decide_eq_false_iff_not] at hg); try (exfalso; omega)))
    | ((with_reducible show _ ∧ _); refine And.intro (fun hg => ?_) (fun hg => ?_) <;> (try simp only [Bool.not_eq_true', Bool.not_eq_false'] at hg) <;> simp only [hg] <;> (try simp only [decide_eq_true_eq, decide_eq_false_iff_not] at hg) <;> (try (exfalso; omega)))
    | ((with_reducible apply FunH_intro); (first | exact archCeil_c w _ h | exact archCeil_c _ _ (by first | rfl | assumption | omega | (simp; done))))
    | (clear hK K)
    | fail)
  all_goals (first | refine EndA_cut hcl (by first | exact Or.inr rfl | exact Or.inl rfl) (by simp only [Try.results39, resA, aresL, go_sem, reduceIte, reduceCtorEq, Nat.reduceAdd, Nat.reduceMul, Nat.reduceSub, Nat.reduceLeDiff, Nat.lt_irrefl, Nat.reduceLT, Nat.reduceEqDiff, Nat.reduceBEq, Int.reduceLE, Int.reduceLT, Int.reduceToNat, w64, eq_self] <;> rfl) rfl ?_ | refine EndA_same (by first | exact Or.inr rfl | exact Or.inl rfl) (by simp only [Try.results39, resA, aresL, go_sem, reduceIte, reduceCtorEq, Nat.reduceAdd, Nat.reduceMul, Nat.reduceSub, Nat.reduceLeDiff, Nat.lt_irrefl, Nat.reduceLT, Nat.reduceEqDiff, Nat.reduceBEq, Int.reduceLE, Int.reduceLT, Int.reduceToNat, w64, eq_self] <;> rfl) ?_)
  all_goals exact ⟨rfl, rfl⟩
theorem iplace_c (w : Nat) (n : Int) (H : Hp) (hw : U .f32 w) (h2 : -16777216 ≤ n) (h3 : n ≤ 16777216) : FunH Try.prog 24 [.flt .f32 (some w), .int .i64 n] H fun r H' => r = .int .i64 (placeI w n) ∧ H' = H := by
  obtain ⟨z, ez, _, hnz, ek, h4, h5⟩ := place_ok hw h2 h3
  have hce := fun H => Ceil_c (wide z) H (isNum_wide hnz)
  have hcw : cw (some z) = some (wide z) := by simp [cw, can_num hnz]
  have hrange : IntKind.i64.min ≤ placeK w n ∧ placeK w n ≤ IntKind.i64.max := by
    have m1 : IntKind.i64.min = -9223372036854775808 := rfl
    have m2 : IntKind.i64.max = 9223372036854775807 := rfl
    omega
  unfold placeI
  (refine FunH_body tyOk Try.func24 rfl (by kernel_rfl) Try.ntmps24 (fun hcl hbd => ?_); simp only [List.length_cons, List.length_nil, Nat.reduceAdd, Nat.reduceSub, List.replicate, List.cons_append, List.nil_append])
  repeat' (first
    | ((with_reducible refine hK _ _ ?_); clear hK K)
    | ((first | (with_reducible show AOp _ _ _ _ _ _ _)); simp (disch := first | ((with_reducible show liveO _ _ _ = true); first | assumption | (exact liveO_setS (by assumption)) | (exact PtL.live (by assumption)) | (exact PtL.liveA (by assumption) _) | (simp only [go_sem]; done)) | omega | assumption | rfl | (simp only [go_sem]; first | done | omega)) only [go_sem, reduceIte, reduceCtorEq, Nat.reduceAdd, Nat.reduceMul, Nat.reduceSub, Nat.reduceLeDiff, Nat.lt_irrefl, Nat.reduceLT, Nat.reduceEqDiff, Nat.reduceBEq, Int.reduceLE, Int.reduceLT, Int.reduceToNat, w64, eq_self, ez, cvC32, hcw, ek, hrange])
    | (with_reducible refine AW_seq (fun K hK => ?_))
    | (with_reducible refine AW_region tyOk ?_)
    | (with_reducible refine AOps_cons (fun K hK => ?_))
    | ((with_reducible refine AOps_nil ?_); try simp only [thenA, blockA, if_true, if_false, reduceIte, Nat.reduceEqDiff, reduceCtorEq])
    | (with_reducible refine AW_block ?_)
    | ((first | (with_reducible refine AW_ret ?_) | (with_reducible refine AW_skip ?_) | (with_reducible refine AW_exit ?_)); try simp only [thenA, blockA, if_true, if_false, reduceIte, Nat.reduceEqDiff, reduceCtorEq])
    | ((with_reducible show AW _ _ (.cond _ _ _) _ _ _); refine AW_cond rfl (fun hg => ?_) (fun hg => ?_) <;> first | (exfalso; simp only [reduceCtorEq] at hg; done) | ((try simp only [Bool.not_eq_true', Bool.not_eq_false', decide_eq_true_eq, decide_eq_false_iff_not] at hg); try (exfalso; omega)))
    | ((with_reducible show _ ∧ _); refine And.intro (fun hg => ?_) (fun hg => ?_) <;> (try simp only [Bool.not_eq_true', Bool.not_eq_false'] at hg) <;> simp only [hg] <;> (try simp only [decide_eq_true_eq, decide_eq_false_iff_not] at hg) <;> (try (exfalso; omega)))
    | ((with_reducible apply FunH_intro); (first | exact hce _ | exact Ceil_c _ _ (by first | rfl | assumption | omega | (simp; done))))
    | (clear hK K)
    | fail)
  all_goals (first | refine EndA_cut hcl (by first | exact Or.inr rfl | exact Or.inl rfl) (by simp only [Try.results24, resA, aresL, go_sem, reduceIte, reduceCtorEq, Nat.reduceAdd, Nat.reduceMul, Nat.reduceSub, Nat.reduceLeDiff, Nat.lt_irrefl, Nat.reduceLT, Nat.reduceEqDiff, Nat.reduceBEq, Int.reduceLE, Int.reduceLT, Int.reduceToNat, w64, eq_self] <;> rfl) rfl ?_ | refine EndA_same (by first | exact Or.inr rfl | exact Or.inl rfl) (by simp only [Try.results24, resA, aresL, go_sem, reduceIte, reduceCtorEq, Nat.reduceAdd, Nat.reduceMul, Nat.reduceSub, Nat.reduceLeDiff, Nat.lt_irrefl, Nat.reduceLT, Nat.reduceEqDiff, Nat.reduceBEq, Int.reduceLE, Int.reduceLT, Int.reduceToNat, w64, eq_self] <;> rfl) ?_)
  all_goals (refine ⟨congrArg (LV.int .i64) ?_, rfl⟩; omega)
end Go.Proofs.Yteejnmgjjefbiaa
