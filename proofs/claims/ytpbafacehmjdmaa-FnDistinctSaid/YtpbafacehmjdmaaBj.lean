/- Numbers: finite ones, shares, lists of them; in the abstract machine. -/
import Derived.Test.YtpbafacehmjdmaaZo
import Derived.Test.YtpbafacehmjdmaaZp
import Derived.Test.YtpbafacehmjdmaaZn
namespace Go.Proofs.Ytpbafacehmjdmaa
open Go.RowKit
set_option linter.unusedSimpArgs false
set_option linter.unusedVariables false
set_option maxRecDepth 100000

def finO (o : Option Nat) : Bool := match o with
  | none => false
  | some b => finB .f32 b
theorem finO_sub (o : Option Nat) : fEq .f32 (opC .sub .f32 o o) (some 0) = finO o := by
  cases o with
  | none => rfl
  | some b =>
    have h : opC .sub .f32 (some b) (some b) = FloatKind.f32.format.sub b b := rfl
    rw [h, sub_self, finO]
    split
    · rename_i h; rw [h]; exact fEq_refl _ _
    · rename_i h; rw [fEq_none]; simpa using h
theorem finO_num {o : Option Nat} (h : finO o = true) : ∃ b, o = some b ∧ finB .f32 b = true := by
  cases o with
  | none => cases h
  | some b => exact ⟨b, rfl, h⟩
theorem fGe_eq (k : FloatKind) (a b : Option Nat) : fGe k a b = fLe k b a := by
  unfold fGe fLe ordC
  cases a <;> cases b <;> simp
  rename_i a b
  rcases Int.lt_trichotomy (key k.format a) (key k.format b) with h | h | h
  · rw [cmp_lt h, cmp_gt h]; rfl
  · rw [cmp_eq h, cmp_eq h.symm]; rfl
  · rw [cmp_gt h, cmp_lt h]; rfl
theorem fGt_eq (k : FloatKind) (a b : Option Nat) : fGt k a b = fLt k b a := by
  unfold fGt fLt ordC
  cases a <;> cases b <;> simp
  rename_i a b
  rcases Int.lt_trichotomy (key k.format a) (key k.format b) with h | h | h
  · rw [cmp_lt h, cmp_gt h]; rfl
  · rw [cmp_eq h, cmp_eq h.symm]; rfl
  · rw [cmp_gt h, cmp_lt h]; rfl
/-- The key of a number. -/
def kO (o : Option Nat) : Int := match o with
  | none => 0
  | some b => key FloatKind.f32.format b
theorem fLt_kO {a b : Option Nat} (ha : finO a = true) (hb : finO b = true) : fLt .f32 a b = decide (kO a < kO b) := by
  obtain ⟨a, rfl, _⟩ := finO_num ha
  obtain ⟨b, rfl, _⟩ := finO_num hb
  have h : fLt .f32 (some a) (some b) = (some (compare (kO (some a)) (kO (some b))) == some .lt) := rfl
  rw [h]
  rcases Int.lt_trichotomy (kO (some a)) (kO (some b)) with h | h | h
  · rw [cmp_lt h, decide_eq_true h]; rfl
  · rw [cmp_eq h, decide_eq_false (by omega)]; rfl
  · rw [cmp_gt h, decide_eq_false (by omega)]; rfl
theorem fLe_kO {a b : Option Nat} (ha : finO a = true) (hb : finO b = true) : fLe .f32 a b = decide (kO a ≤ kO b) := by
  obtain ⟨a, rfl, _⟩ := finO_num ha
  obtain ⟨b, rfl, _⟩ := finO_num hb
  have h : fLe .f32 (some a) (some b) = (some (compare (kO (some a)) (kO (some b))) == some .lt || some (compare (kO (some a)) (kO (some b))) == some .eq) := rfl
  rw [h]
  rcases Int.lt_trichotomy (kO (some a)) (kO (some b)) with h | h | h
  · rw [cmp_lt h, decide_eq_true (by omega)]; rfl
  · rw [cmp_eq h, decide_eq_true (by omega)]; rfl
  · rw [cmp_gt h, decide_eq_false (by omega)]; rfl
theorem IsFinite_c (o : Option Nat) (H : Hp) : FunH Try.prog 41 [.flt .f32 o] H fun r H' => r = .bool (finO o) ∧ H' = H := by
  (refine FunH_body tyOk Try.func41 rfl (by kernel_rfl) Try.ntmps41 (fun hcl hbd => ?_); simp only [List.length_cons, List.length_nil, Nat.reduceAdd, Nat.reduceSub, List.replicate, List.cons_append, List.nil_append])
  repeat' (first
    | ((with_reducible refine hK _ _ ?_); clear hK K)
    | ((first | (with_reducible show AOp _ _ _ _ _ _ _)); simp (disch := first | ((with_reducible show liveO _ _ _ = true); first | assumption | (exact liveO_setS (by assumption)) | (exact PtL.live (by assumption)) | (exact PtL.liveA (by assumption) _) | (simp only [go_sem]; done)) | omega | assumption | rfl | (simp only [go_sem]; first | done | omega)) only [go_sem, reduceIte, reduceCtorEq, Nat.reduceAdd, Nat.reduceMul, Nat.reduceSub, Nat.reduceLeDiff, Nat.lt_irrefl, Nat.reduceLT, Nat.reduceEqDiff, Nat.reduceBEq, Int.reduceLE, Int.reduceLT, Int.reduceToNat, w64, eq_self, finO_sub])
    | (with_reducible refine AW_seq (fun K hK => ?_))
    | (with_reducible refine AW_region tyOk ?_)
    | (with_reducible refine AOps_cons (fun K hK => ?_))
    | ((with_reducible refine AOps_nil ?_); try simp only [thenA, blockA, if_true, if_false, reduceIte, Nat.reduceEqDiff, reduceCtorEq])
    | (with_reducible refine AW_block ?_)
    | ((first | (with_reducible refine AW_ret ?_) | (with_reducible refine AW_skip ?_) | (with_reducible refine AW_exit ?_)); try simp only [thenA, blockA, if_true, if_false, reduceIte, Nat.reduceEqDiff, reduceCtorEq])
    | ((with_reducible show AW _ _ (.cond _ _ _) _ _ _); refine AW_cond rfl (fun hg => ?_) (fun hg => ?_) <;> first | (exfalso; simp only [reduceCtorEq] at hg; done) | ((try simp only [Bool.not_eq_true', Bool.not_eq_false', decide_eq_true_eq, decide_eq_false_iff_not] at hg); try (exfalso; omega)))
    | ((with_reducible show _ ∧ _); refine And.intro (fun hg => ?_) (fun hg => ?_) <;> (try simp only [Bool.not_eq_true', Bool.not_eq_false'] at hg) <;> simp only [hg] <;> (try simp only [decide_eq_true_eq, decide_eq_false_iff_not] at hg) <;> (try (exfalso; omega)))
    | (clear hK K)
    | fail)
  all_goals (first | refine EndA_cut hcl (by first | exact Or.inr rfl | exact Or.inl rfl) (by simp only [Try.results41, resA, aresL, go_sem, reduceIte, reduceCtorEq, Nat.reduceAdd, Nat.reduceMul, Nat.reduceSub, Nat.reduceLeDiff, Nat.lt_irrefl, Nat.reduceLT, Nat.reduceEqDiff, Nat.reduceBEq, Int.reduceLE, Int.reduceLT, Int.reduceToNat, w64, eq_self] <;> rfl) rfl ?_ | refine EndA_same (by first | exact Or.inr rfl | exact Or.inl rfl) (by simp only [Try.results41, resA, aresL, go_sem, reduceIte, reduceCtorEq, Nat.reduceAdd, Nat.reduceMul, Nat.reduceSub, Nat.reduceLeDiff, Nat.lt_irrefl, Nat.reduceLT, Nat.reduceEqDiff, Nat.reduceBEq, Int.reduceLE, Int.reduceLT, Int.reduceToNat, w64, eq_self] <;> rfl) ?_)
  all_goals exact ⟨rfl, rfl⟩
def listB (xs : List (Option Nat)) : Bool := decide (1 ≤ xs.length) && decide (xs.length ≤ 256) && xs.all finO
theorem listB_len {xs : List (Option Nat)} (h : listB xs = true) : 1 ≤ xs.length ∧ xs.length ≤ 256 ∧ xs.all finO = true := by
  unfold listB at h; simp only [Bool.and_eq_true, decide_eq_true_eq] at h; exact ⟨h.1.1, h.1.2, h.2⟩
def streamFB (xs : List (Option Nat)) : Bool := decide (1 ≤ xs.length) && decide (xs.length ≤ 128) && xs.all finO
def shareB (o : Option Nat) : Bool := fGe .f32 o (some 0) && fLe .f32 o (some 1065353216)
def orZ (o : Option Nat) : Option Nat := if finO o then o else some 0
end Go.Proofs.Ytpbafacehmjdmaa
