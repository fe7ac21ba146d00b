/- Numbers as bits, equal numbers, in the abstract machine. -/
import Derived.Test.YtcjpfifajbjalaaBj
import Derived.Test.YtcjpfifajbjalaaSame
import Derived.Laws.Externs
namespace Go.Proofs.Ytcjpfifajbjalaa
open Go.RowKit
set_option linter.unusedSimpArgs false
set_option linter.unusedVariables false
set_option maxRecDepth 100000

theorem arr1 {R : LV → Value → Prop} {x : LV} {a : Array Value} (h : All2 R [x] a.toList) : ∃ v, a = #[v] ∧ R x v := by
  obtain ⟨l⟩ := a
  match l, h with
  | [v], h => exact ⟨v, rfl, h.1⟩
theorem float32bits_c (b : Nat) (H : Hp) : FunH Try.prog 254 [.flt .f32 (some b)] H fun r H' => r = .int .u32 (b : Nat) ∧ H' = H := by
  intro w0 μ w cargs hR ha
  obtain ⟨v, rfl, b', rfl, hb⟩ := arr1 ha
  obtain ⟨rfl, _⟩ := can_some hb
  rw [run_callFunc_extern Try.func254 (by kernel_rfl) rfl (by kernel_rfl) (show Extern.find _ = some Extern.MathFloatBits.float32bits by kernel_rfl)]
  exact ⟨.int .u32 (b : Nat), μ, H, hR, rfl, Ext.refl _ _, rfl, rfl⟩
theorem float64bits_c (b : Nat) (H : Hp) : FunH Try.prog 290 [.flt .f64 (some b)] H fun r H' => r = .int .u64 (b : Nat) ∧ H' = H := by
  intro w0 μ w cargs hR ha
  obtain ⟨v, rfl, b', rfl, hb⟩ := arr1 ha
  obtain ⟨rfl, _⟩ := can_some hb
  rw [run_callFunc_extern Try.func290 (by kernel_rfl) rfl (by kernel_rfl) (show Extern.find _ = some Extern.MathFloatBits.float64bits by kernel_rfl)]
  exact ⟨.int .u64 (b : Nat), μ, H, hR, rfl, Ext.refl _ _, rfl, rfl⟩
theorem float64frombits_c (n : Int) (H : Hp) : FunH Try.prog 241 [.int .u64 n] H fun r H' => r = .flt .f64 (can .f64 n.toNat) ∧ H' = H := by
  intro w0 μ w cargs hR ha
  obtain ⟨v, rfl, hb⟩ := arr1 ha
  have hb' : v = .int .u64 n := hb
  subst hb'
  rw [run_callFunc_extern Try.func241 (by kernel_rfl) rfl (by kernel_rfl) (show Extern.find _ = some Extern.MathFloatBits.float64frombits by kernel_rfl)]
  exact ⟨.flt .f64 (can .f64 n.toNat), μ, H, hR, ⟨_, rfl, rfl⟩, Ext.refl _ _, rfl, rfl⟩
def bitsO (o : Option Nat) : Int := match o with
  | none => 2143289344
  | some b => (b : Int)
def sameO (a b : Option Nat) : Bool := decide (a = b)
theorem l01Bits_c (o : Option Nat) (H : Hp) (h : FOk o) : FunH Try.prog 216 [.flt .f32 o] H fun r H' => r = .int .i64 (bitsO o) ∧ H' = H := by
  cases o with
  | none =>
    (refine FunH_body tyOk Try.func216 rfl (by kernel_rfl) Try.ntmps216 (fun hcl hbd => ?_); simp only [List.length_cons, List.length_nil, Nat.reduceAdd, Nat.reduceSub, List.replicate, List.cons_append, List.nil_append])
    repeat' (first
      | ((with_reducible refine hK _ _ ?_); clear hK K)
      | ((first | (with_reducible show AOp _ _ _ _ _ _ _)); simp (disch := first | ((with_reducible show liveO _ _ _ = true); first | assumption | (exact liveO_setS (by assumption)) | (exact PtL.live (by assumption)) | (exact PtL.liveA (by assumption) _) | (simp only [go_sem]; done)) | omega | assumption | rfl | (simp only [go_sem]; first | done | omega)) only [go_sem, reduceIte, reduceCtorEq, Nat.reduceAdd, Nat.reduceMul, Nat.reduceSub, Nat.reduceLeDiff, Nat.lt_irrefl, Nat.reduceLT, Nat.reduceEqDiff, Nat.reduceBEq, Int.reduceLE, Int.reduceLT, Int.reduceToNat, w64, eq_self, fEq_none])
      | (with_reducible refine AW_seq (fun K hK => ?_))
      | (with_reducible refine AW_region tyOk ?_)
      | (with_reducible refine AOps_cons (fun K hK => ?_))
      | ((with_reducible refine AOps_nil ?_); try simp only [thenA, blockA, if_true, if_false, reduceIte, Nat.reduceEqDiff, reduceCtorEq])
      | (with_reducible refine AW_block ?_)
      | ((first | (with_reducible refine AW_ret ?_) | (with_reducible refine AW_skip ?_) | (with_reducible refine AW_exit ?_)); try simp only [thenA, blockA, if_true, if_false, reduceIte, Nat.reduceEqDiff, reduceCtorEq])
      | ((with_reducible show AW _ _ (.cond _ _ _) _ _ _); refine AW_cond rfl (fun hg => ?_) (fun hg => ?_) <;> first | (exfalso; simp only [reduceCtorEq] at hg; done) | ((try simp only [Bool.not_eq_true', Bool.not_eq_false', decide_eq_true_eq, decide_eq_false_iff_not] at hg); try (exfalso; omega)))
      | ((with_reducible show _ ∧ _); refine And.intro (fun hg => ?_) (fun hg => ?_) <;> (try simp only [Bool.not_eq_true', Bool.not_eq_false'] at hg) <;> simp only [hg] <;> (try simp only [decide_eq_true_eq, decide_eq_false_iff_not] at hg) <;> (try (exfalso; omega)))
      | ((with_reducible apply FunH_intro); (first | exact float32bits_c _ _))
      | (clear hK K)
      | fail)
    all_goals (first | refine EndA_cut hcl (by first | exact Or.inr rfl | exact Or.inl rfl) (by simp only [Try.results216, resA, aresL, go_sem, reduceIte, reduceCtorEq, Nat.reduceAdd, Nat.reduceMul, Nat.reduceSub, Nat.reduceLeDiff, Nat.lt_irrefl, Nat.reduceLT, Nat.reduceEqDiff, Nat.reduceBEq, Int.reduceLE, Int.reduceLT, Int.reduceToNat, w64, eq_self] <;> rfl) rfl ?_ | refine EndA_same (by first | exact Or.inr rfl | exact Or.inl rfl) (by simp only [Try.results216, resA, aresL, go_sem, reduceIte, reduceCtorEq, Nat.reduceAdd, Nat.reduceMul, Nat.reduceSub, Nat.reduceLeDiff, Nat.lt_irrefl, Nat.reduceLT, Nat.reduceEqDiff, Nat.reduceBEq, Int.reduceLE, Int.reduceLT, Int.reduceToNat, w64, eq_self] <;> rfl) ?_)
    all_goals exact ⟨rfl, rfl⟩
  | some b =>
    obtain ⟨h1, h2⟩ := h b rfl
    (refine FunH_body tyOk Try.func216 rfl (by kernel_rfl) Try.ntmps216 (fun hcl hbd => ?_); simp only [List.length_cons, List.length_nil, Nat.reduceAdd, Nat.reduceSub, List.replicate, List.cons_append, List.nil_append])
    repeat' (first
      | ((with_reducible refine hK _ _ ?_); clear hK K)
      | ((first | (with_reducible show AOp _ _ _ _ _ _ _)); simp (disch := first | ((with_reducible show liveO _ _ _ = true); first | assumption | (exact liveO_setS (by assumption)) | (exact PtL.live (by assumption)) | (exact PtL.liveA (by assumption) _) | (simp only [go_sem]; done)) | omega | assumption | rfl | (simp only [go_sem]; first | done | omega)) only [go_sem, reduceIte, reduceCtorEq, Nat.reduceAdd, Nat.reduceMul, Nat.reduceSub, Nat.reduceLeDiff, Nat.lt_irrefl, Nat.reduceLT, Nat.reduceEqDiff, Nat.reduceBEq, Int.reduceLE, Int.reduceLT, Int.reduceToNat, w64, eq_self, fEq_refl])
      | (with_reducible refine AW_seq (fun K hK => ?_))
      | (with_reducible refine AW_region tyOk ?_)
      | (with_reducible refine AOps_cons (fun K hK => ?_))
      | ((with_reducible refine AOps_nil ?_); try simp only [thenA, blockA, if_true, if_false, reduceIte, Nat.reduceEqDiff, reduceCtorEq])
      | (with_reducible refine AW_block ?_)
      | ((first | (with_reducible refine AW_ret ?_) | (with_reducible refine AW_skip ?_) | (with_reducible refine AW_exit ?_)); try simp only [thenA, blockA, if_true, if_false, reduceIte, Nat.reduceEqDiff, reduceCtorEq])
      | ((with_reducible show AW _ _ (.cond _ _ _) _ _ _); refine AW_cond rfl (fun hg => ?_) (fun hg => ?_) <;> first | (exfalso; simp only [reduceCtorEq] at hg; done) | ((try simp only [Bool.not_eq_true', Bool.not_eq_false', decide_eq_true_eq, decide_eq_false_iff_not] at hg); try (exfalso; omega)))
      | ((with_reducible show _ ∧ _); refine And.intro (fun hg => ?_) (fun hg => ?_) <;> (try simp only [Bool.not_eq_true', Bool.not_eq_false'] at hg) <;> simp only [hg] <;> (try simp only [decide_eq_true_eq, decide_eq_false_iff_not] at hg) <;> (try (exfalso; omega)))
      | ((with_reducible apply FunH_intro); (first | exact float32bits_c _ _))
      | (clear hK K)
      | fail)
    all_goals (first | refine EndA_cut hcl (by first | exact Or.inr rfl | exact Or.inl rfl) (by simp only [Try.results216, resA, aresL, go_sem, reduceIte, reduceCtorEq, Nat.reduceAdd, Nat.reduceMul, Nat.reduceSub, Nat.reduceLeDiff, Nat.lt_irrefl, Nat.reduceLT, Nat.reduceEqDiff, Nat.reduceBEq, Int.reduceLE, Int.reduceLT, Int.reduceToNat, w64, eq_self] <;> rfl) rfl ?_ | refine EndA_same (by first | exact Or.inr rfl | exact Or.inl rfl) (by simp only [Try.results216, resA, aresL, go_sem, reduceIte, reduceCtorEq, Nat.reduceAdd, Nat.reduceMul, Nat.reduceSub, Nat.reduceLeDiff, Nat.lt_irrefl, Nat.reduceLT, Nat.reduceEqDiff, Nat.reduceBEq, Int.reduceLE, Int.reduceLT, Int.reduceToNat, w64, eq_self] <;> rfl) ?_)
    all_goals exact ⟨rfl, rfl⟩
theorem bitsO_eq {a b : Option Nat} (ha : FOk a) (hb : FOk b) : (bitsO a == bitsO b) = sameO a b := by
  have hq : isNum .f32 2143289344 = false := by decide
  unfold sameO bitsO
  cases a with
  | none => cases b with
    | none => rfl
    | some b =>
      obtain ⟨h1, h2⟩ := hb b rfl
      have : ((2143289344 : Int) == (b : Int)) = false := by
        cases e : ((2143289344 : Int) == (b : Int)) with
        | false => rfl
        | true => have : b = 2143289344 := by simp at e; omega
                  rw [this, hq] at h1; cases h1
      simp [this]
  | some a => cases b with
    | none =>
      obtain ⟨h1, h2⟩ := ha a rfl
      have : ((a : Int) == (2143289344 : Int)) = false := by
        cases e : ((a : Int) == (2143289344 : Int)) with
        | false => rfl
        | true => have : a = 2143289344 := by simp at e; omega
                  rw [this, hq] at h1; cases h1
      simp [this]
    | some b => rw [Bool.eq_iff_iff]; simp; exact Int.ofNat_inj
theorem l01Same_c (a b : Option Nat) (H : Hp) (ha : FOk a) (hb : FOk b) : FunH Try.prog 133 [.flt .f32 a, .flt .f32 b] H fun r H' => r = .bool (sameO a b) ∧ H' = H := by
  have e := bitsO_eq ha hb
  (refine FunH_body tyOk Try.func133 rfl (by kernel_rfl) Try.ntmps133 (fun hcl hbd => ?_); simp only [List.length_cons, List.length_nil, Nat.reduceAdd, Nat.reduceSub, List.replicate, List.cons_append, List.nil_append])
  repeat' (first
    | ((with_reducible refine hK _ _ ?_); clear hK K)
    | ((first | (with_reducible show AOp _ _ _ _ _ _ _)); simp (disch := first | ((with_reducible show liveO _ _ _ = true); first | assumption | (exact liveO_setS (by assumption)) | (exact PtL.live (by assumption)) | (exact PtL.liveA (by assumption) _) | (simp only [go_sem]; done)) | omega | assumption | rfl | (simp only [go_sem]; first | done | omega)) only [go_sem, reduceIte, reduceCtorEq, Nat.reduceAdd, Nat.reduceMul, Nat.reduceSub, Nat.reduceLeDiff, Nat.lt_irrefl, Nat.reduceLT, Nat.reduceEqDiff, Nat.reduceBEq, Int.reduceLE, Int.reduceLT, Int.reduceToNat, w64, eq_self, e])
    | (with_reducible refine AW_seq (fun K hK => ?_))
    | (with_reducible refine AW_region tyOk ?_)
    | (with_reducible refine AOps_cons (fun K hK => ?_))
    | ((with_reducible refine AOps_nil ?_); try simp only [thenA, blockA, if_true, if_false, reduceIte, Nat.reduceEqDiff, reduceCtorEq])
    | (with_reducible refine AW_block ?_)
    | ((first | (with_reducible refine AW_ret ?_) | (with_reducible refine AW_skip ?_) | (with_reducible refine AW_exit ?_)); try simp only [thenA, blockA, if_true, if_false, reduceIte, Nat.reduceEqDiff, reduceCtorEq])
    | ((with_reducible show AW _ _ (.cond _ _ _) _ _ _); refine AW_cond rfl (fun hg => ?_) (fun hg => ?_) <;> first | (exfalso; simp only [reduceCtorEq] at hg; done) | ((try simp only [Bool.not_eq_true', Bool.not_eq_false', decide_eq_true_eq, decide_eq_false_iff_not] at hg); try (exfalso; omega)))
    | ((with_reducible show _ ∧ _); refine And.intro (fun hg => ?_) (fun hg => ?_) <;> (try simp only [Bool.not_eq_true', Bool.not_eq_false'] at hg) <;> simp only [hg] <;> (try simp only [decide_eq_true_eq, decide_eq_false_iff_not] at hg) <;> (try (exfalso; omega)))
    | ((with_reducible apply FunH_intro); (first | exact l01Bits_c _ _ (by first | assumption | (simp; done))))
    | (clear hK K)
    | fail)
  all_goals (first | refine EndA_cut hcl (by first | exact Or.inr rfl | exact Or.inl rfl) (by simp only [Try.results133, resA, aresL, go_sem, reduceIte, reduceCtorEq, Nat.reduceAdd, Nat.reduceMul, Nat.reduceSub, Nat.reduceLeDiff, Nat.lt_irrefl, Nat.reduceLT, Nat.reduceEqDiff, Nat.reduceBEq, Int.reduceLE, Int.reduceLT, Int.reduceToNat, w64, eq_self] <;> rfl) rfl ?_ | refine EndA_same (by first | exact Or.inr rfl | exact Or.inl rfl) (by simp only [Try.results133, resA, aresL, go_sem, reduceIte, reduceCtorEq, Nat.reduceAdd, Nat.reduceMul, Nat.reduceSub, Nat.reduceLeDiff, Nat.lt_irrefl, Nat.reduceLT, Nat.reduceEqDiff, Nat.reduceBEq, Int.reduceLE, Int.reduceLT, Int.reduceToNat, w64, eq_self] <;> rfl) ?_)
  all_goals exact ⟨rfl, rfl⟩
end Go.Proofs.Ytcjpfifajbjalaa
