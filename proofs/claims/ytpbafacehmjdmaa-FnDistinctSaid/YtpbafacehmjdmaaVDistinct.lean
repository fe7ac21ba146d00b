/- The walk of the law FnDistinct in the abstract machine. -/
import Derived.Test.YtpbafacehmjdmaaRi
import Derived.Test.YtpbafacehmjdmaaRa
import Derived.Test.YtpbafacehmjdmaaNu
import Derived.Test.YtpbafacehmjdmaaNq
namespace Go.Proofs.Ytpbafacehmjdmaa
open Go.RowKit
set_option linter.unusedSimpArgs false
set_option linter.unusedVariables false
set_option maxRecDepth 100000

theorem lt_ofD {X : Hp} {i : Nat} {o : AO} (h : X[i]? = some o) : i < X.length := lt_getF' h
theorem at_appD {Z : Hp} {i : Nat} {o : AO} (h : Z[i]? = some o) (L : Hp) : (Z ++ L)[i]? = some o := by rw [List.getElem?_append_left (lt_ofD h)]; exact h
theorem pre_setD {H X : Hp} (h : ∃ K, X = H ++ K) {b : Nat} (hb : H.length ≤ b) (o : AO) : ∃ K, X.set b o = H ++ K := by
  obtain ⟨K, e⟩ := h
  exact ⟨K.set (b - H.length) o, by rw [e, List.set_append_right _ _ hb]⟩
def bxZ (s : Int) (A : Nat) : AO := ⟨0, false, 28, 2, [.int .i64 s, .sl A 0 0 256 none]⟩
def rwZ (cs : List Int) : AO := ⟨0, false, 2, 1, cs.map (LV.int .i64)⟩
/-- The keys, the empty cells, the boxes of the three, their cells. -/
structure FD (H0 X : Hp) (a b all z : List Int) (s : Int) (A1 A2 A3 : Nat) (c1 c2 c3 : List Int) : Prop where
  pre : ∃ K, X = H0 ++ K
  ka : X[H0.length]? = some (rwZ a)
  kb : X[H0.length + 1]? = some (rwZ b)
  kc : X[H0.length + 2]? = some ⟨2, false, 2, 1, all.map (LV.int .i64)⟩
  em : X[H0.length + 3]? = some (rwZ z)
  b9 : X[H0.length + 4]? = some (bxZ s (H0.length + 3))
  b10 : X[H0.length + 5]? = some (bxZ s A1)
  b11 : X[H0.length + 6]? = some (bxZ s A2)
  b12 : X[H0.length + 7]? = some (bxZ s A3)
  r1 : X[A1]? = some (rwZ c1)
  r2 : X[A2]? = some (rwZ c2)
  r3 : X[A3]? = some (rwZ c3)
  n1 : A1 ≠ H0.length + 5 ∧ A1 ≠ H0.length + 6 ∧ A1 ≠ H0.length + 7
  n2 : A2 ≠ H0.length + 5 ∧ A2 ≠ H0.length + 6 ∧ A2 ≠ H0.length + 7
  n3 : A3 ≠ H0.length + 5 ∧ A3 ≠ H0.length + 6 ∧ A3 ≠ H0.length + 7
section
variable {H0 X : Hp} {a b all z c1 c2 c3 : List Int} {s : Int} {A1 A2 A3 : Nat}
theorem FD.app (h : FD H0 X a b all z s A1 A2 A3 c1 c2 c3) (K : Hp) : FD H0 (X ++ K) a b all z s A1 A2 A3 c1 c2 c3 := by
  obtain ⟨⟨K0, e0⟩, h2, h3, h4, h5, h6, h7, h8, h9, q1, q2, q3, m1, m2, m3⟩ := h
  exact ⟨⟨K0 ++ K, by rw [e0, List.append_assoc]⟩, at_appD h2 K, at_appD h3 K, at_appD h4 K, at_appD h5 K, at_appD h6 K, at_appD h7 K, at_appD h8 K, at_appD h9 K, at_appD q1 K, at_appD q2 K, at_appD q3 K, m1, m2, m3⟩
theorem FD.set7 (h : FD H0 X a b all z s A1 A2 A3 c1 c2 c3) {A' : Nat} {c' : List Int} (hc : X[A']? = some (rwZ c')) (hn : A' ≠ H0.length + 5 ∧ A' ≠ H0.length + 6 ∧ A' ≠ H0.length + 7) :
    FD H0 (X.set (H0.length + 7) (bxZ s A')) a b all z s A1 A2 A' c1 c2 c' := by
  obtain ⟨h1, h2, h3, h4, h5, h6, h7, h8, h9, q1, q2, q3, m1, m2, m3⟩ := h
  have hne : ∀ {i : Nat} {o : AO}, X[i]? = some o → i ≠ H0.length + 7 → (X.set (H0.length + 7) (bxZ s A'))[i]? = some o := fun hi hn => by rw [List.getElem?_set_ne (Ne.symm hn)]; exact hi
  exact ⟨pre_setD h1 (by omega) _, hne h2 (by omega), hne h3 (by omega), hne h4 (by omega), hne h5 (by omega), hne h6 (by omega), hne h7 (by omega), hne h8 (by omega), List.getElem?_set_self (lt_ofD h9), hne q1 m1.2.2, hne q2 m2.2.2, hne hc hn.2.2, m1, m2, hn⟩
theorem FD.set5 (h : FD H0 X a b all z s A1 A2 A3 c1 c2 c3) {A' : Nat} {c' : List Int} (hc : X[A']? = some (rwZ c')) (hn : A' ≠ H0.length + 5 ∧ A' ≠ H0.length + 6 ∧ A' ≠ H0.length + 7) :
    FD H0 (X.set (H0.length + 5) (bxZ s A')) a b all z s A' A2 A3 c' c2 c3 := by
  obtain ⟨h1, h2, h3, h4, h5, h6, h7, h8, h9, q1, q2, q3, m1, m2, m3⟩ := h
  have hne : ∀ {i : Nat} {o : AO}, X[i]? = some o → i ≠ H0.length + 5 → (X.set (H0.length + 5) (bxZ s A'))[i]? = some o := fun hi hn => by rw [List.getElem?_set_ne (Ne.symm hn)]; exact hi
  exact ⟨pre_setD h1 (by omega) _, hne h2 (by omega), hne h3 (by omega), hne h4 (by omega), hne h5 (by omega), hne h6 (by omega), List.getElem?_set_self (lt_ofD h7), hne h8 (by omega), hne h9 (by omega), hne hc hn.1, hne q2 m2.1, hne q3 m3.1, hn, m2, m3⟩
theorem FD.set6 (h : FD H0 X a b all z s A1 A2 A3 c1 c2 c3) {A' : Nat} {c' : List Int} (hc : X[A']? = some (rwZ c')) (hn : A' ≠ H0.length + 5 ∧ A' ≠ H0.length + 6 ∧ A' ≠ H0.length + 7) :
    FD H0 (X.set (H0.length + 6) (bxZ s A')) a b all z s A1 A' A3 c1 c' c3 := by
  obtain ⟨h1, h2, h3, h4, h5, h6, h7, h8, h9, q1, q2, q3, m1, m2, m3⟩ := h
  have hne : ∀ {i : Nat} {o : AO}, X[i]? = some o → i ≠ H0.length + 6 → (X.set (H0.length + 6) (bxZ s A'))[i]? = some o := fun hi hn => by rw [List.getElem?_set_ne (Ne.symm hn)]; exact hi
  exact ⟨pre_setD h1 (by omega) _, hne h2 (by omega), hne h3 (by omega), hne h4 (by omega), hne h5 (by omega), hne h6 (by omega), hne h7 (by omega), List.getElem?_set_self (lt_ofD h8), hne h9 (by omega), hne q1 m1.2.1, hne hc hn.2.1, hne q3 m3.2.1, m1, hn, m3⟩
theorem gbZ {i A : Nat} (h : X[i]? = some (bxZ s A)) (L : Hp) : hgets (X ++ L) i 0 0 2 = some [.int .i64 s, .sl A 0 0 256 none] := by simp [hgets, at_appD h L, bxZ]
theorem gbZ0 {i A : Nat} (h : X[i]? = some (bxZ s A)) : hgets X i 0 0 2 = some [.int .i64 s, .sl A 0 0 256 none] := by simp [hgets, h, bxZ]
theorem pbZ {i A : Nat} (h : X[i]? = some (bxZ s A)) (L : Hp) (x y : LV) : hput (X ++ L) i 0 0 [x, y] = some ((X ++ L).set i ⟨0, false, 28, 2, [x, y]⟩) := hputA_at' (at_appD h L) (by simp)
theorem rdZ {A : Nat} {c : List Int} {n : Nat} (h : X[A]? = some (rwZ c)) (hn : c.length = n) : RdL X (.sl A 0 0 n none) (c.map (LV.int .i64)) := RdL_id h (by rw [List.length_map, hn])
end
theorem toI_few : ∀ n : Nat, n < 21 → Ieee.Datum.toInt Ieee.Toward.zero (FloatKind.f32.decode (FloatKind.f32.nearest (n : Int))) = some (n : Int) := by decide +kernel
theorem czP_zu {cs : List Int} (hl : cs.length = 256) (hb : ∀ x ∈ cs, 0 ≤ x ∧ x ≤ 33) : czP cs cs.length = 256 - zuN cs := by
  have key : ∀ cs : List Int, (∀ x ∈ cs, 0 ≤ x ∧ x ≤ 33) → (cs.countP fun x => x == 0) + (cs.countP fun x => decide (0 < x)) = cs.length := by
    intro cs
    induction cs with
    | nil => intro _; rfl
    | cons x t ih =>
      intro h
      have h1 := ih fun y hy => h y (List.mem_cons_of_mem _ hy)
      have h2 := h x (List.mem_cons_self ..)
      rw [List.countP_cons, List.countP_cons, List.length_cons]
      by_cases e : x = 0
      · subst e; simp; omega
      · have e1 : (x == 0) = false := by simpa using e
        have e2 : decide (0 < x) = true := decide_eq_true (by omega)
        rw [e1, e2]; simp; omega
  have := key cs hb
  unfold czP zuN
  rw [List.take_length]
  omega
set_option maxHeartbeats 16000000 in
theorem lawDistinct (a0v : LV) (a0x : List Int) (a1v : LV) (a1x : List Int) (H0 : Hp) (ha0x : RdL H0 a0v (a0x.map (LV.int .u8))) (na0x : a0x.length ≤ 9223372036854775807) (ba0x : ∀ y ∈ a0x, 0 ≤ y ∧ y ≤ 255) (ha1x : RdL H0 a1v (a1x.map (LV.int .u8))) (na1x : a1x.length ≤ 9223372036854775807) (ba1x : ∀ y ∈ a1x, 0 ≤ y ∧ y ≤ 255) : FunH Try.prog 3 [a0v, a1v] H0 fun r H' => r = .bool true := by
  have b0 : byB a0x := ba0x
  have b1 : byB a1x := ba1x
  have hLong := long48_c a0v a1v a0x a1x H0 ha0x ha1x
  cases e0 : (decide (48 < a0x.length) || decide (48 < a1x.length))
  case true =>
    rw [e0] at hLong
    (refine FunH_body tyOk Try.func3 rfl (by kernel_rfl) Try.ntmps3 (fun hcl hbd => ?_); simp only [List.length_cons, List.length_nil, Nat.reduceAdd, Nat.reduceSub, List.replicate, List.cons_append, List.nil_append])
    repeat' (first
 | ((with_reducible refine hK _ _ ?_); clear hK K)
 | ((first | (with_reducible show AOp _ _ _ _ _ _ _)); simp (disch := first | ((with_reducible show liveO _ _ _ = true); first | assumption | (exact liveO_at' b16) | (exact liveO_at' hSY.b12) | (exact liveO_setS (by assumption)) | (exact PtL.live (by assumption)) | (exact PtL.liveA (by assumption) _) | (simp only [go_sem]; done)) | omega | assumption | rfl | (simp only [go_sem]; first | done | omega)) only [go_sem, reduceIte, reduceCtorEq, Nat.reduceAdd, Nat.reduceMul, Nat.reduceSub, Nat.reduceLeDiff, Nat.lt_irrefl, Nat.reduceLT, Nat.reduceEqDiff, Nat.reduceBEq, Int.reduceLE, Int.reduceLT, Int.reduceToNat, w64, eq_self, e0])
 | (with_reducible refine AW_seq (fun K hK => ?_))
 | (with_reducible refine AW_region tyOk ?_)
 | (with_reducible refine AOps_cons (fun K hK => ?_))
 | ((with_reducible refine AOps_nil ?_); try simp only [thenA, blockA, if_true, if_false, reduceIte, Nat.reduceEqDiff, reduceCtorEq])
 | (with_reducible refine AW_block ?_)
 | ((first | (with_reducible refine AW_ret ?_) | (with_reducible refine AW_skip ?_) | (with_reducible refine AW_exit ?_)); try simp only [thenA, blockA, if_true, if_false, reduceIte, Nat.reduceEqDiff, reduceCtorEq])
 | ((with_reducible show AW _ _ (.cond _ _ _) _ _ _); refine AW_cond rfl (fun hg => ?_) (fun hg => ?_) <;> first | (exfalso; simp only [reduceCtorEq] at hg; done) | ((try simp only [Bool.not_eq_true', Bool.not_eq_false', decide_eq_true_eq, decide_eq_false_iff_not] at hg); try (exfalso; omega)))
 | ((with_reducible show _ ∧ _); refine And.intro (fun hg => ?_) (fun hg => ?_) <;> (try simp only [Bool.not_eq_true', Bool.not_eq_false'] at hg) <;> simp only [hg] <;> (try simp only [decide_eq_true_eq, decide_eq_false_iff_not] at hg) <;> (try (exfalso; omega)))
 | ((with_reducible apply FunH_intro); (first | ((with_reducible show FunH _ 4 _ _ _); exact hLong)))
 | (clear hK K)
      | fail)
    all_goals (first | refine EndA_cut hcl (by first | exact Or.inr rfl | exact Or.inl rfl) (by simp only [Try.results3, resA, aresL, go_sem, reduceIte, reduceCtorEq, Nat.reduceAdd, Nat.reduceMul, Nat.reduceSub, Nat.reduceLeDiff, Nat.lt_irrefl, Nat.reduceLT, Nat.reduceEqDiff, Nat.reduceBEq, Int.reduceLE, Int.reduceLT, Int.reduceToNat, w64, eq_self] <;> rfl) rfl ?_ | refine EndA_same (by first | exact Or.inr rfl | exact Or.inl rfl) (by simp only [Try.results3, resA, aresL, go_sem, reduceIte, reduceCtorEq, Nat.reduceAdd, Nat.reduceMul, Nat.reduceSub, Nat.reduceLeDiff, Nat.lt_irrefl, Nat.reduceLT, Nat.reduceEqDiff, Nat.reduceBEq, Int.reduceLE, Int.reduceLT, Int.reduceToNat, w64, eq_self] <;> rfl) ?_)
    all_goals rfl
  rw [e0] at hLong
  obtain ⟨n1, n2⟩ := rAt_in b1 40 (n := 10) (by omega)
  obtain ⟨m1, m2⟩ := rAt_in b1 41 (n := 10) (by omega)
  obtain ⟨s1, s2⟩ := rAt_in b1 42 (n := 256) (by omega)
  obtain ⟨r1, r2⟩ := rAt_in b1 43 (n := 12) (by omega)
  obtain ⟨n, hn⟩ : ∃ n : Nat, 1 + rAt a1x 40 10 = (n : Int) := ⟨(1 + rAt a1x 40 10).toNat, by omega⟩
  obtain ⟨m, hm⟩ : ∃ m : Nat, 1 + rAt a1x 41 10 = (m : Int) := ⟨(1 + rAt a1x 41 10).toNat, by omega⟩
  obtain ⟨s, hs⟩ : ∃ s, rAt a1x 42 256 = s := ⟨_, rfl⟩
  obtain ⟨room, hroom⟩ : ∃ room, 1 + rAt a1x 43 12 = room := ⟨_, rfl⟩
  rw [hs] at s1 s2
  have hRa := R8Keys_c a0v a0x n H0 ha0x b0 na0x (by omega)
  have hRb := fun K => R8Keys_c a1v a1x m (H0 ++ K) (ha1x.app K) b1 na1x (by omega)
  have hka := rkL_in b0 n
  have hkb := rkL_in b1 m
  have hla := rkL_len a0x n
  have hlb := rkL_len a1x m
  obtain ⟨a, ha⟩ : ∃ a, rkL a0x n = a := ⟨_, rfl⟩
  obtain ⟨b, hb⟩ : ∃ b, rkL a1x m = b := ⟨_, rfl⟩
  rw [ha] at hRa hka hla
  rw [hb] at hRb hkb hlb
  have hA : ∀ (i : Nat) (q : Int) L, RdL L a1v (a1x.map (LV.int .u8)) → i ≤ 1000 → 0 ≤ q ∧ q ≤ 4294967296 → FunH Try.prog 6 [a1v, .int .i64 (i : Nat), .int .i64 q] L fun r H' => r = .int .i64 (rAt a1x i q) ∧ H' = L := fun i q L h hi hq => r8At_c a1v a1x i q L h b1 na1x hi hq
  have hA0 := fun L h => hA 40 10 L h (by decide) (by decide)
  have hA1 := fun L h => hA 41 10 L h (by decide) (by decide)
  have hA2 := fun L h => hA 42 256 L h (by decide) (by decide)
  have hA3 := fun L h => hA 43 12 L h (by decide) (by decide)
  obtain ⟨z, hz⟩ : ∃ z : List Int, List.replicate 256 0 = z := ⟨_, rfl⟩
  have hmk : ∀ (L : Hp), amake ⟨.int .i64, 1, 8, [.int .i64 0]⟩ 2 L 256 256 = some (.sl L.length 0 0 256 none, L ++ [⟨0, false, 2, 1, z.map (LV.int .i64)⟩]) := fun L => by
    have := amake_ok (te := ⟨.int .i64, 1, 8, [.int .i64 0]⟩) (el := 2) (H := L) (l := 256) (c := 256) (Nat.le_refl _) (by omega) (by simp)
    rw [← hz, List.map_replicate]
    exact this
  have hci := fun (xs : List Int) => (all_int .i64 xs)
  have ham : (a.map (LV.int .i64)).length = n := by rw [List.length_map, hla]
  have hbm : (b.map (LV.int .i64)).length = m := by rw [List.length_map, hlb]
  have tna : (a.map (LV.int .i64)).take n = a.map (LV.int .i64) := List.take_of_length_le (by omega)
  have tnb : (b.map (LV.int .i64)).take m = b.map (LV.int .i64) := List.take_of_length_le (by omega)
  have hn0 : 0 < n := by omega
  have hm0 : 0 < m := by omega
  (refine FunH_body tyOk Try.func3 rfl (by kernel_rfl) Try.ntmps3 (fun hcl hbd => ?_); simp only [List.length_cons, List.length_nil, Nat.reduceAdd, Nat.reduceSub, List.replicate, List.cons_append, List.nil_append])
  repeat' (first
 | ((with_reducible refine hK _ _ ?_); clear hK K)
 | ((first | (with_reducible show AOp _ _ _ _ _ _ _)); simp (disch := first | ((with_reducible show liveO _ _ _ = true); first | assumption | (exact liveO_at' b16) | (exact liveO_at' hSY.b12) | (exact liveO_setS (by assumption)) | (exact PtL.live (by assumption)) | (exact PtL.liveA (by assumption) _) | (simp only [go_sem]; done)) | omega | assumption | rfl | (simp only [go_sem]; first | done | omega)) only [go_sem, reduceIte, reduceCtorEq, Nat.reduceAdd, Nat.reduceMul, Nat.reduceSub, Nat.reduceLeDiff, Nat.lt_irrefl, Nat.reduceLT, Nat.reduceEqDiff, Nat.reduceBEq, Int.reduceLE, Int.reduceLT, Int.reduceToNat, w64, eq_self, e0, hn])
 | ((with_reducible refine AW_seqN [4] ?_ (fun K hK => ?_)); (exact rfl))
 | (with_reducible refine AW_region tyOk ?_)
 | (with_reducible refine AOps_cons (fun K hK => ?_))
 | ((with_reducible refine AOps_nil ?_); try simp only [thenA, blockA, if_true, if_false, reduceIte, Nat.reduceEqDiff, reduceCtorEq])
 | (with_reducible refine AW_block ?_)
 | ((first | (with_reducible refine AW_ret ?_) | (with_reducible refine AW_skip ?_) | (with_reducible refine AW_exit ?_)); try simp only [thenA, blockA, if_true, if_false, reduceIte, Nat.reduceEqDiff, reduceCtorEq])
 | ((with_reducible show AW _ _ (.cond _ _ _) _ _ _); refine AW_cond rfl (fun hg => ?_) (fun hg => ?_) <;> first | (exfalso; simp only [reduceCtorEq] at hg; done) | ((try simp only [Bool.not_eq_true', Bool.not_eq_false', decide_eq_true_eq, decide_eq_false_iff_not] at hg); try (exfalso; omega)))
 | ((with_reducible show _ ∧ _); refine And.intro (fun hg => ?_) (fun hg => ?_) <;> (try simp only [Bool.not_eq_true', Bool.not_eq_false'] at hg) <;> simp only [hg] <;> (try simp only [decide_eq_true_eq, decide_eq_false_iff_not] at hg) <;> (try (exfalso; omega)))
 | ((with_reducible apply FunH_intro); (first | ((with_reducible show FunH _ 4 _ _ _); exact hLong) | ((with_reducible show FunH _ 6 _ _ _); exact hA0 _ ha1x) | ((with_reducible show FunH _ 5 _ _ _); exact hRa)))
 | (clear hK K)
    | fail)
  repeat' (first
 | ((with_reducible refine hK _ _ ?_); clear hK K)
 | ((first | (with_reducible show AOp _ _ _ _ _ _ _)); simp (disch := first | ((with_reducible show liveO _ _ _ = true); first | assumption | (exact liveO_at' b16) | (exact liveO_at' hSY.b12) | (exact liveO_setS (by assumption)) | (exact PtL.live (by assumption)) | (exact PtL.liveA (by assumption) _) | (simp only [go_sem]; done)) | omega | assumption | rfl | (simp only [go_sem]; first | done | omega)) only [go_sem, reduceIte, reduceCtorEq, Nat.reduceAdd, Nat.reduceMul, Nat.reduceSub, Nat.reduceLeDiff, Nat.lt_irrefl, Nat.reduceLT, Nat.reduceEqDiff, Nat.reduceBEq, Int.reduceLE, Int.reduceLT, Int.reduceToNat, w64, eq_self, hm])
 | ((with_reducible refine AW_seqN [5] ?_ (fun K hK => ?_)); (exact rfl))
 | (with_reducible refine AW_region tyOk ?_)
 | (with_reducible refine AOps_cons (fun K hK => ?_))
 | ((with_reducible refine AOps_nil ?_); try simp only [thenA, blockA, if_true, if_false, reduceIte, Nat.reduceEqDiff, reduceCtorEq])
 | (with_reducible refine AW_block ?_)
 | ((first | (with_reducible refine AW_ret ?_) | (with_reducible refine AW_skip ?_) | (with_reducible refine AW_exit ?_)); try simp only [thenA, blockA, if_true, if_false, reduceIte, Nat.reduceEqDiff, reduceCtorEq])
 | ((with_reducible show AW _ _ (.cond _ _ _) _ _ _); refine AW_cond rfl (fun hg => ?_) (fun hg => ?_) <;> first | (exfalso; simp only [reduceCtorEq] at hg; done) | ((try simp only [Bool.not_eq_true', Bool.not_eq_false', decide_eq_true_eq, decide_eq_false_iff_not] at hg); try (exfalso; omega)))
 | ((with_reducible show _ ∧ _); refine And.intro (fun hg => ?_) (fun hg => ?_) <;> (try simp only [Bool.not_eq_true', Bool.not_eq_false'] at hg) <;> simp only [hg] <;> (try simp only [decide_eq_true_eq, decide_eq_false_iff_not] at hg) <;> (try (exfalso; omega)))
 | ((with_reducible apply FunH_intro); (first | ((with_reducible show FunH _ 6 _ _ _); exact hA1 _ (ha1x.app _)) | ((with_reducible show FunH _ 5 _ _ _); exact hRb _)))
 | (clear hK K)
    | fail)
  have hra : RdL (H0 ++ [(⟨0, false, 2, 1, a.map (LV.int .i64)⟩ : AO), ⟨0, false, 2, 1, b.map (LV.int .i64)⟩]) (.sl H0.length 0 0 n none) (a.map (LV.int .i64)) := RdL_h0 rfl ham
  have hrb : RdL (H0 ++ [(⟨0, false, 2, 1, a.map (LV.int .i64)⟩ : AO), ⟨0, false, 2, 1, b.map (LV.int .i64)⟩]) (.sl (H0.length + 1) 0 0 m none) (b.map (LV.int .i64)) := RdL_hj rfl hbm
  repeat' (first
 | ((with_reducible refine hK _ _ ?_); clear hK K)
 | ((first | (with_reducible show AOp _ _ _ _ _ _ _)); simp (disch := first | ((with_reducible show liveO _ _ _ = true); first | assumption | (exact liveO_at' b16) | (exact liveO_at' hSY.b12) | (exact liveO_setS (by assumption)) | (exact PtL.live (by assumption)) | (exact PtL.liveA (by assumption) _) | (simp only [go_sem]; done)) | omega | assumption | rfl | (simp only [go_sem]; first | done | omega)) only [go_sem, reduceIte, reduceCtorEq, Nat.reduceAdd, Nat.reduceMul, Nat.reduceSub, Nat.reduceLeDiff, Nat.lt_irrefl, Nat.reduceLT, Nat.reduceEqDiff, Nat.reduceBEq, Int.reduceLE, Int.reduceLT, Int.reduceToNat, w64, eq_self, tna, tnb, ham, hbm, hci, hs, hmk])
 | (with_reducible refine AW_seq (fun K hK => ?_))
 | (with_reducible refine AW_region tyOk ?_)
 | (with_reducible refine AOps_cons (fun K hK => ?_))
 | ((with_reducible refine AOps_nil ?_); try simp only [thenA, blockA, if_true, if_false, reduceIte, Nat.reduceEqDiff, reduceCtorEq])
 | (with_reducible refine AW_block ?_)
 | ((first | (with_reducible refine AW_ret ?_) | (with_reducible refine AW_skip ?_) | (with_reducible refine AW_exit ?_)); try simp only [thenA, blockA, if_true, if_false, reduceIte, Nat.reduceEqDiff, reduceCtorEq])
 | ((with_reducible show AW _ _ (.cond _ _ _) _ _ _); refine AW_cond rfl (fun hg => ?_) (fun hg => ?_) <;> first | (exfalso; simp only [reduceCtorEq] at hg; done) | ((try simp only [Bool.not_eq_true', Bool.not_eq_false', decide_eq_true_eq, decide_eq_false_iff_not] at hg); try (exfalso; omega)))
 | ((with_reducible show _ ∧ _); refine And.intro (fun hg => ?_) (fun hg => ?_) <;> (try simp only [Bool.not_eq_true', Bool.not_eq_false'] at hg) <;> simp only [hg] <;> (try simp only [decide_eq_true_eq, decide_eq_false_iff_not] at hg) <;> (try (exfalso; omega)))
 | ((with_reducible apply FunH_intro); (first | ((with_reducible show FunH _ 6 _ _ _); exact hA2 _ (ha1x.app _))))
 | (clear hK K)
    | fail)
  obtain ⟨Zc, hZc⟩ : ∃ Zc : List Int → List Int, zcL (zA s) (zV s) 256 = Zc := ⟨_, rfl⟩
  have hks : keyB s = true := (keyB_iff s).2 (by omega)
  have zlen : ∀ xs, (Zc xs).length = 256 := fun xs => by rw [← hZc]; exact zcL_len xs
  have zok : ∀ xs, zerB s (Zc xs) = true := fun xs => by rw [← hZc]; exact zcL_ok (zV_in s) hks xs
  have zput : ∀ xs k, pzL k s (Zc xs) = Zc (xs ++ [k]) := fun xs k => by rw [← hZc]; exact zcL_put s xs k
  have znil : Zc [] = z := by rw [← hZc, zcL_nil, hz]
  have hall : (a ++ b).length = n + m := by rw [List.length_append, hla, hlb]
  have hkall : ∀ x ∈ a ++ b, keyB x = true := fun x hx => (keyB_iff x).2 (by
    rcases List.mem_append.1 hx with h | h
    · exact hka x h
    · exact hkb x h)
  have hFD : FD H0 (H0 ++ [(⟨0, false, 2, 1, a.map (LV.int .i64)⟩ : AO), ⟨0, false, 2, 1, b.map (LV.int .i64)⟩, ⟨2, false, 2, 1, a.map (LV.int .i64) ++ b.map (LV.int .i64)⟩, ⟨0, false, 2, 1, z.map (LV.int .i64)⟩, ⟨0, false, 28, 2, [.int .i64 s, .sl (H0.length + 3) 0 0 256 none]⟩, ⟨0, false, 28, 2, [.int .i64 s, .sl (H0.length + 3) 0 0 256 none]⟩, ⟨0, false, 28, 2, [.int .i64 s, .sl (H0.length + 3) 0 0 256 none]⟩, ⟨0, false, 28, 2, [.int .i64 s, .sl (H0.length + 3) 0 0 256 none]⟩]) a b (a ++ b) z s (H0.length + 3) (H0.length + 3) (H0.length + 3) (Zc (a.take 0)) (Zc (b.take (0 - n))) (Zc ((a ++ b).take 0)) := by
    rw [Nat.zero_sub, List.take_zero, List.take_zero, List.take_zero, znil]
    exact ⟨⟨_, rfl⟩, (hp_get0 _ _).trans rfl, (hp_getj _ _ _).trans rfl, (hp_getj _ _ _).trans (by rw [List.map_append]; rfl), (hp_getj _ _ _).trans rfl, (hp_getj _ _ _).trans rfl, (hp_getj _ _ _).trans rfl, (hp_getj _ _ _).trans rfl, (hp_getj _ _ _).trans rfl, (hp_getj _ _ _).trans rfl, (hp_getj _ _ _).trans rfl, (hp_getj _ _ _).trans rfl, by omega, by omega, by omega⟩
  refine AW_loopV [4, 13, 14, 15, 71, 72, 73, 74, 75, 76, 77, 78, 79, 80, 81, 82, 83, 84, 85, 86, 87, 88, 89, 90, 91, 92, 93, 94, 95, 96, 97, 98, 99, 100, 101, 102, 103, 104, 105, 106, 107, 108, 109, 110, 111, 112] (fun p : Nat × Hp × (Nat × Nat × Nat) => [(13, .int .i64 (p.1 : Nat))]) (fun p => p.2.1) (fun p => p.1 ≤ n + m ∧ FD H0 p.2.1 a b (a ++ b) z s p.2.2.1 p.2.2.2.1 p.2.2.2.2 (Zc (a.take p.1)) (Zc (b.take (p.1 - n))) (Zc ((a ++ b).take p.1))) (fun p => n + m - p.1) (0, _, (H0.length + 3, H0.length + 3, H0.length + 3)) ⟨Nat.zero_le _, hFD⟩ ?_ rfl ?_
  · simp only [junkAll, setAll, List.foldl_cons, List.foldl_nil, List.set_cons_succ, List.set_cons_zero, JL, true_or, or_true, and_true, true_and, reduceCtorEq, false_or, or_false, LV.int.injEq, LV.bool.injEq, LV.flt.injEq, LV.sl.injEq, LV.ptr.injEq, eq_self, Int.natCast_add, Int.natCast_one, Int.natCast_zero, Int.ofNat_zero]
  clear hFD hra hrb
  intro ⟨i, H, A1, A2, A3⟩ ⟨hi, hS⟩ K hK
  simp only at hi hS
  simp only [junkAll, setAll, List.foldl_cons, List.foldl_nil, List.set_cons_succ, List.set_cons_zero]
  by_cases hil : i < n + m
  · obtain ⟨k, hk⟩ : ∃ k, ix (a ++ b) i = k := ⟨_, rfl⟩
    have hkk : keyB k = true := by rw [← hk]; exact hkall _ (ix_mem _ i (by omega))
    have hrc : RdL H (.sl (H0.length + 2) 2 0 (n + m) none) ((a ++ b).map (LV.int .i64)) := RdL_id hS.kc (by rw [List.length_map, hall])
    have hX8 := lt_ofD hS.b12
    have t3 : Zc ((a ++ b).take i ++ [k]) = Zc ((a ++ b).take (i + 1)) := by rw [take_ix _ _ (show i < (a ++ b).length by omega), hk]
    have hpz := fun o : AO => iPutZeros_c s _ (Zc ((a ++ b).take i)) k (H ++ [o]) ((rdZ hS.r3 (zlen _)).app _) (zok _) hkk
    simp only [zlen, zput, t3, List.length_append, List.length_cons, List.length_nil, Nat.zero_add, List.append_assoc, List.cons_append, List.nil_append] at hpz
    repeat' (first
 | ((with_reducible refine hK _ _ ?_); clear hK K)
 | ((with_reducible refine hK _ ?_); clear hK K; try simp only [])
 | ((with_reducible refine hK _ _ ?_ ?_); (first | exact Or.inl rfl | exact Or.inr (fun _ => by (first | exact ⟨_, rfl⟩ | exact ⟨_, by rw [List.append_assoc]; rfl⟩ | exact ⟨_, by simp only [List.append_assoc, List.cons_append, List.nil_append]; rfl⟩ | exact ⟨_, by rw [hp_setj, List.append_assoc]; rfl⟩ | exact ⟨_, hp_setj _ _ _ _⟩ | exact ⟨[], (List.append_nil _).symm⟩))); clear hK K)
 | ((first | (with_reducible show AOp _ _ _ _ _ _ _) | (with_reducible show AQOp _ _ _ _ _ _ _)); simp (disch := first | ((with_reducible show liveO _ _ _ = true); first | assumption | (exact liveO_at' b16) | (exact liveO_at' hSY.b12) | (exact liveO_setS (by assumption)) | (exact PtL.live (by assumption)) | (exact PtL.liveA (by assumption) _) | (simp only [go_sem]; done)) | omega | assumption | rfl | (simp only [go_sem]; first | done | omega)) only [go_sem, reduceIte, reduceCtorEq, Nat.reduceAdd, Nat.reduceMul, Nat.reduceSub, Nat.reduceLeDiff, Nat.lt_irrefl, Nat.reduceLT, Nat.reduceEqDiff, Nat.reduceBEq, Int.reduceLE, Int.reduceLT, Int.reduceToNat, w64, eq_self, gbZ hS.b12, gbZ0 hS.b12, pbZ hS.b12, hrc.idxm, hrc.ldm, hrc.idxmA, hrc.ldmA, hall, hk])
 | ((with_reducible refine AW_seqN [18] ?_ (fun K hK => ?_)); (exact rfl))
 | (with_reducible refine AW_region tyOk ?_)
 | ((with_reducible apply AW_treeV (id := 14) tyOk 12 [(9, H.length)] [(28, 2)] [10, 11]); (kernel_rfl); (exact rfl); simp only [List.map_cons, List.map_nil, List.append_assoc, List.cons_append, List.nil_append])
 | ((with_reducible refine AAnyR_leaf (by decide +kernel) ?_); (with_reducible exact Wk.refl))
 | ((with_reducible refine AAnyR_quiet 0 rfl rfl ?_ (by decide +kernel) (by decide +kernel) (by decide +kernel) (by decide +kernel) (by (first | exact ⟨_, rfl⟩ | exact ⟨_, by rw [List.append_assoc]; rfl⟩ | exact ⟨_, by simp only [List.append_assoc, List.cons_append, List.nil_append]; rfl⟩ | exact ⟨_, by rw [hp_setj, List.append_assoc]; rfl⟩ | exact ⟨_, hp_setj _ _ _ _⟩ | exact ⟨[], (List.append_nil _).symm⟩)) (fun K hK => ?_)); (exact rfl))
 | ((with_reducible refine AAnyR_quiet 1 rfl rfl ?_ (by decide +kernel) (by decide +kernel) (by decide +kernel) (by decide +kernel) (by (first | exact ⟨_, rfl⟩ | exact ⟨_, by rw [List.append_assoc]; rfl⟩ | exact ⟨_, by simp only [List.append_assoc, List.cons_append, List.nil_append]; rfl⟩ | exact ⟨_, by rw [hp_setj, List.append_assoc]; rfl⟩ | exact ⟨_, hp_setj _ _ _ _⟩ | exact ⟨[], (List.append_nil _).symm⟩)) (fun K hK => ?_)); (exact rfl))
 | ((with_reducible refine AAnyR_quiet 2 rfl rfl ?_ (by decide +kernel) (by decide +kernel) (by decide +kernel) (by decide +kernel) (by (first | exact ⟨_, rfl⟩ | exact ⟨_, by rw [List.append_assoc]; rfl⟩ | exact ⟨_, by simp only [List.append_assoc, List.cons_append, List.nil_append]; rfl⟩ | exact ⟨_, by rw [hp_setj, List.append_assoc]; rfl⟩ | exact ⟨_, hp_setj _ _ _ _⟩ | exact ⟨[], (List.append_nil _).symm⟩)) (fun K hK => ?_)); (exact rfl))
 | ((with_reducible refine AAnyR_quiet 3 rfl rfl ?_ (by decide +kernel) (by decide +kernel) (by decide +kernel) (by decide +kernel) (by (first | exact ⟨_, rfl⟩ | exact ⟨_, by rw [List.append_assoc]; rfl⟩ | exact ⟨_, by simp only [List.append_assoc, List.cons_append, List.nil_append]; rfl⟩ | exact ⟨_, by rw [hp_setj, List.append_assoc]; rfl⟩ | exact ⟨_, hp_setj _ _ _ _⟩ | exact ⟨[], (List.append_nil _).symm⟩)) (fun K hK => ?_)); (exact rfl))
 | ((with_reducible refine AAnyR_quiet 4 rfl rfl ?_ (by decide +kernel) (by decide +kernel) (by decide +kernel) (by decide +kernel) (by (first | exact ⟨_, rfl⟩ | exact ⟨_, by rw [List.append_assoc]; rfl⟩ | exact ⟨_, by simp only [List.append_assoc, List.cons_append, List.nil_append]; rfl⟩ | exact ⟨_, by rw [hp_setj, List.append_assoc]; rfl⟩ | exact ⟨_, hp_setj _ _ _ _⟩ | exact ⟨[], (List.append_nil _).symm⟩)) (fun K hK => ?_)); (exact rfl))
 | ((with_reducible refine AAnyR_quiet 6 rfl rfl ?_ (by decide +kernel) (by decide +kernel) (by decide +kernel) (by decide +kernel) (by (first | exact ⟨_, rfl⟩ | exact ⟨_, by rw [List.append_assoc]; rfl⟩ | exact ⟨_, by simp only [List.append_assoc, List.cons_append, List.nil_append]; rfl⟩ | exact ⟨_, by rw [hp_setj, List.append_assoc]; rfl⟩ | exact ⟨_, hp_setj _ _ _ _⟩ | exact ⟨[], (List.append_nil _).symm⟩)) (fun K hK => ?_)); (exact rfl))
 | ((with_reducible refine AAnyR_quiet 7 rfl rfl ?_ (by decide +kernel) (by decide +kernel) (by decide +kernel) (by decide +kernel) (by (first | exact ⟨_, rfl⟩ | exact ⟨_, by rw [List.append_assoc]; rfl⟩ | exact ⟨_, by simp only [List.append_assoc, List.cons_append, List.nil_append]; rfl⟩ | exact ⟨_, by rw [hp_setj, List.append_assoc]; rfl⟩ | exact ⟨_, hp_setj _ _ _ _⟩ | exact ⟨[], (List.append_nil _).symm⟩)) (fun K hK => ?_)); (exact rfl))
 | (with_reducible refine AAnyR_step 5 [9] (by decide +kernel) ?_)
 | (with_reducible refine AAnyR_step 8 [9] (by decide +kernel) ?_)
 | (with_reducible refine AAnyR_step 8 [10] (by decide +kernel) ?_)
 | (with_reducible refine AAnyR_step 5 [] (by decide +kernel) ?_)
 | (with_reducible refine AAnyR_step 8 [] (by decide +kernel) ?_)
 | (with_reducible refine AAnyR_step 9 [] (by decide +kernel) ?_)
 | (with_reducible refine AAnyR_step 10 [] (by decide +kernel) ?_)
 | (with_reducible refine AAnyR_step 11 [] (by decide +kernel) ?_)
 | ((with_reducible refine AAllR_res (i := 9) (H.length) 14 ?_ rfl ?_ (fun K hK => ?_) ?_); (exact rfl); (exact rfl))
 | ((with_reducible show RK _ _ _ _ _ _); (try simp only [List.append_assoc, List.cons_append, List.nil_append, hp_setj, List.set_cons_succ, List.set_cons_zero]); refine RK_intro _ (by first | exact List.append_assoc _ _ _ | rfl) (by first | exact (hp_getj _ _ _).trans rfl | exact (hp_get0 _ _).trans rfl) rfl rfl (by first | exact (fun c hc => (scal_int _ _ c hc).2) | (intro c hc; simp only [List.mem_cons, List.not_mem_nil, or_false] at hc; (try (rcases hc with rfl | rfl | rfl | rfl | rfl)) <;> first | exact trivial | (subst hc; exact trivial) | (cases hc; done))) (by first | exact ⟨_, _, rfl, by simp, Or.inl rfl⟩ | exact ⟨_, _, rfl, by simp, Or.inr ⟨_, rfl⟩⟩) ?_; simp only [hp_setj, hp_set0, List.set_cons_succ, List.set_cons_zero, List.getD_cons_succ, List.getD_cons_zero, reloc]; refine ⟨Or.inr (fun _ => by (first | exact ⟨_, rfl⟩ | exact ⟨_, by rw [List.append_assoc]; rfl⟩ | exact ⟨_, by simp only [List.append_assoc, List.cons_append, List.nil_append]; rfl⟩ | exact ⟨_, by rw [hp_setj, List.append_assoc]; rfl⟩ | exact ⟨_, hp_setj _ _ _ _⟩ | exact ⟨[], (List.append_nil _).symm⟩)), ?_⟩)
 | ((with_reducible refine AAllR_cons ?_ rfl (fun K hK => ?_) ?_); (exact rfl))
 | (with_reducible exact AAllR_nil)
 | ((with_reducible show thenA _ _ _ _ _); simp only [thenA, blockA, if_true, if_false, reduceIte])
 | ((with_reducible show blockA _ _ _ _ _); simp only [thenA, blockA, if_true, if_false, reduceIte, Nat.reduceEqDiff, reduceCtorEq])
 | (with_reducible refine AOps_cons (fun K hK => ?_))
 | (with_reducible refine AQOps_cons (fun K hK => ?_))
 | ((with_reducible refine AQOps_nil ?_); try simp only [thenA, blockA, if_true, if_false, reduceIte, Nat.reduceEqDiff, reduceCtorEq])
 | ((with_reducible refine AOps_nil ?_); try simp only [thenA, blockA, if_true, if_false, reduceIte, Nat.reduceEqDiff, reduceCtorEq])
 | (with_reducible refine AW_block ?_)
 | ((first | (with_reducible refine AW_ret ?_) | (with_reducible refine AW_skip ?_) | (with_reducible refine AW_exit ?_)); try simp only [thenA, blockA, if_true, if_false, reduceIte, Nat.reduceEqDiff, reduceCtorEq])
 | ((with_reducible show AW _ _ (.cond _ _ _) _ _ _); refine AW_cond rfl (fun hg => ?_) (fun hg => ?_) <;> first | (exfalso; simp only [reduceCtorEq] at hg; done) | ((try simp only [Bool.not_eq_true', Bool.not_eq_false', decide_eq_true_eq, decide_eq_false_iff_not] at hg); try (exfalso; omega)))
 | ((with_reducible show _ ∧ _); refine And.intro (fun hg => ?_) (fun hg => ?_) <;> (try simp only [Bool.not_eq_true', Bool.not_eq_false'] at hg) <;> simp only [hg] <;> (try simp only [decide_eq_true_eq, decide_eq_false_iff_not] at hg) <;> (try (exfalso; omega)))
 | ((first | (with_reducible apply FunH_intro) | (with_reducible apply AQ_intro)); (first | ((with_reducible show FunH _ 7 _ _ _); exact hpz _)))
 | (clear hK K)
      | fail)
    have hS1 := (hS.app [(⟨1, false, 28, 2, [.int .i64 s, .sl (H.length + 1) 0 0 256 none]⟩ : AO), rwZ (Zc ((a ++ b).take (i + 1)))]).set7 (A' := H.length + 1) (c' := Zc ((a ++ b).take (i + 1))) ((hp_getj _ _ _).trans rfl) (by omega)
    obtain ⟨X, hX⟩ : ∃ X, (H ++ [(⟨1, false, 28, 2, [.int .i64 s, .sl (H.length + 1) 0 0 256 none]⟩ : AO), rwZ (Zc ((a ++ b).take (i + 1)))]).set (H0.length + 7) (bxZ s (H.length + 1)) = X := ⟨_, rfl⟩
    rw [hX] at hS1
    simp only [rwZ, bxZ] at hX
    rw [hX]
    obtain ⟨A3', hA3'⟩ : ∃ A3', H.length + 1 = A3' := ⟨_, rfl⟩
    rw [hA3'] at hS1
    clear hX hpz hS hrc hX8
    have hrc : RdL X (.sl (H0.length + 2) 2 0 (n + m) none) ((a ++ b).map (LV.int .i64)) := RdL_id hS1.kc (by rw [List.length_map, hall])
    have hX8 := lt_ofD hS1.b12
    by_cases hin : i < n
    · have hki : ix a i = k := by rw [← hk, ix_eq _ _ (show i < (a ++ b).length by omega), List.getElem_append_left (by omega), ix_eq _ _ (by omega)]
      have t1 : Zc (a.take i ++ [k]) = Zc (a.take (i + 1)) := by rw [take_ix _ _ (show i < a.length by omega), hki]
      have hpz := iPutZeros_c s _ (Zc (a.take i)) k X (rdZ hS1.r1 (zlen _)) (zok _) hkk
      simp only [zlen, zput, t1] at hpz
      repeat' (first
 | ((with_reducible refine hK _ _ ?_); clear hK K)
 | ((with_reducible refine hK _ ?_); clear hK K; try simp only [])
 | ((first | (with_reducible show AOp _ _ _ _ _ _ _) | (with_reducible show AQOp _ _ _ _ _ _ _)); simp (disch := first | ((with_reducible show liveO _ _ _ = true); first | assumption | (exact liveO_at' b16) | (exact liveO_at' hSY.b12) | (exact liveO_setS (by assumption)) | (exact PtL.live (by assumption)) | (exact PtL.liveA (by assumption) _) | (simp only [go_sem]; done)) | omega | assumption | rfl | (simp only [go_sem]; first | done | omega)) only [go_sem, reduceIte, reduceCtorEq, Nat.reduceAdd, Nat.reduceMul, Nat.reduceSub, Nat.reduceLeDiff, Nat.lt_irrefl, Nat.reduceLT, Nat.reduceEqDiff, Nat.reduceBEq, Int.reduceLE, Int.reduceLT, Int.reduceToNat, w64, eq_self, gbZ hS1.b10, gbZ0 hS1.b10, pbZ hS1.b10, hrc.idxm, hrc.ldm, hall, hk])
 | (with_reducible refine AW_seq (fun K hK => ?_))
 | (with_reducible refine AW_region tyOk ?_)
 | ((with_reducible apply AW_tree (id := 19) tyOk 11); (kernel_rfl); (exact rfl))
 | ((with_reducible refine AAny_leaf (by decide +kernel) ?_); exact ⟨rfl, rfl⟩)
 | (with_reducible refine AAny_pure 1 rfl rfl (by decide +kernel) (by decide +kernel) (fun K hK => ?_))
 | (with_reducible refine AAny_pure 2 rfl rfl (by decide +kernel) (by decide +kernel) (fun K hK => ?_))
 | (with_reducible refine AAny_pure 6 rfl rfl (by decide +kernel) (by decide +kernel) (fun K hK => ?_))
 | (with_reducible refine AAny_pure 7 rfl rfl (by decide +kernel) (by decide +kernel) (fun K hK => ?_))
 | (with_reducible refine AAny_pure 8 rfl rfl (by decide +kernel) (by decide +kernel) (fun K hK => ?_))
 | (with_reducible refine AAny_pure 10 rfl rfl (by decide +kernel) (by decide +kernel) (fun K hK => ?_))
 | (with_reducible refine AAny_step 0 [3] (by decide +kernel) ?_)
 | (with_reducible refine AAny_step 0 [4] (by decide +kernel) ?_)
 | (with_reducible refine AAny_step 0 [] (by decide +kernel) ?_)
 | (with_reducible refine AAny_step 3 [] (by decide +kernel) ?_)
 | (with_reducible refine AAny_step 4 [] (by decide +kernel) ?_)
 | (with_reducible refine AAny_step 5 [] (by decide +kernel) ?_)
 | (with_reducible refine AAny_step 9 [] (by decide +kernel) ?_)
 | (with_reducible refine AAll_cons rfl (fun K hK => ?_) ?_)
 | (with_reducible exact AAll_nil)
 | ((with_reducible show thenA _ _ _ _ _); simp only [thenA, blockA, if_true, if_false, reduceIte])
 | ((with_reducible show blockA _ _ _ _ _); simp only [thenA, blockA, if_true, if_false, reduceIte, Nat.reduceEqDiff, reduceCtorEq])
 | (with_reducible refine AOps_cons (fun K hK => ?_))
 | (with_reducible refine AQOps_cons (fun K hK => ?_))
 | ((with_reducible refine AQOps_nil ?_); try simp only [thenA, blockA, if_true, if_false, reduceIte, Nat.reduceEqDiff, reduceCtorEq])
 | ((with_reducible refine AOps_nil ?_); try simp only [thenA, blockA, if_true, if_false, reduceIte, Nat.reduceEqDiff, reduceCtorEq])
 | (with_reducible refine AW_block ?_)
 | ((first | (with_reducible refine AW_ret ?_) | (with_reducible refine AW_skip ?_) | (with_reducible refine AW_exit ?_)); try simp only [thenA, blockA, if_true, if_false, reduceIte, Nat.reduceEqDiff, reduceCtorEq])
 | ((with_reducible show AW _ _ (.cond _ _ _) _ _ _); refine AW_cond rfl (fun hg => ?_) (fun hg => ?_) <;> first | (exfalso; simp only [reduceCtorEq] at hg; done) | ((try simp only [Bool.not_eq_true', Bool.not_eq_false', decide_eq_true_eq, decide_eq_false_iff_not] at hg); try (exfalso; omega)))
 | ((with_reducible show _ ∧ _); refine And.intro (fun hg => ?_) (fun hg => ?_) <;> (try simp only [Bool.not_eq_true', Bool.not_eq_false'] at hg) <;> simp only [hg] <;> (try simp only [decide_eq_true_eq, decide_eq_false_iff_not] at hg) <;> (try (exfalso; omega)))
 | ((first | (with_reducible apply FunH_intro) | (with_reducible apply AQ_intro)); (first | ((with_reducible show FunH _ 7 _ _ _); exact hpz)))
 | (clear hK K)
        | fail)
      have hS2 := (hS1.app [rwZ (Zc (a.take (i + 1)))]).set5 (A' := X.length) (c' := Zc (a.take (i + 1))) ((hp_get0 _ _).trans rfl) (by omega)
      refine hK _ _ (i + 1, _, (X.length, A2, A3')) ⟨by simp only; omega, ?_⟩ (by simp only; omega) ?_ rfl
      · rw [show i + 1 - n = i - n by omega]; exact hS2
      · simp only [junkAll, setAll, List.foldl_cons, List.foldl_nil, List.set_cons_succ, List.set_cons_zero, JL, true_or, or_true, and_true, true_and, reduceCtorEq, false_or, or_false, LV.int.injEq, LV.bool.injEq, LV.flt.injEq, LV.sl.injEq, LV.ptr.injEq, eq_self, Int.natCast_add, Int.natCast_one, Int.natCast_zero, Int.ofNat_zero]
    · have hkj : ix b (i - n) = k := by rw [← hk, ix_eq _ _ (show i < (a ++ b).length by omega), List.getElem_append_right (by omega), ix_eq _ _ (by omega)]; simp only [hla]
      have t2 : Zc (b.take (i - n) ++ [k]) = Zc (b.take (i + 1 - n)) := by rw [show i + 1 - n = (i - n) + 1 by omega, take_ix _ _ (show i - n < b.length by omega), hkj]
      have hpz := iPutZeros_c s _ (Zc (b.take (i - n))) k X (rdZ hS1.r2 (zlen _)) (zok _) hkk
      simp only [zlen, zput, t2] at hpz
      repeat' (first
 | ((with_reducible refine hK _ _ ?_); clear hK K)
 | ((with_reducible refine hK _ ?_); clear hK K; try simp only [])
 | ((first | (with_reducible show AOp _ _ _ _ _ _ _) | (with_reducible show AQOp _ _ _ _ _ _ _)); simp (disch := first | ((with_reducible show liveO _ _ _ = true); first | assumption | (exact liveO_at' b16) | (exact liveO_at' hSY.b12) | (exact liveO_setS (by assumption)) | (exact PtL.live (by assumption)) | (exact PtL.liveA (by assumption) _) | (simp only [go_sem]; done)) | omega | assumption | rfl | (simp only [go_sem]; first | done | omega)) only [go_sem, reduceIte, reduceCtorEq, Nat.reduceAdd, Nat.reduceMul, Nat.reduceSub, Nat.reduceLeDiff, Nat.lt_irrefl, Nat.reduceLT, Nat.reduceEqDiff, Nat.reduceBEq, Int.reduceLE, Int.reduceLT, Int.reduceToNat, w64, eq_self, gbZ hS1.b11, gbZ0 hS1.b11, pbZ hS1.b11, hrc.idxm, hrc.ldm, hall, hk])
 | (with_reducible refine AW_seq (fun K hK => ?_))
 | (with_reducible refine AW_region tyOk ?_)
 | ((with_reducible apply AW_tree (id := 20) tyOk 11); (kernel_rfl); (exact rfl))
 | ((with_reducible refine AAny_leaf (by decide +kernel) ?_); exact ⟨rfl, rfl⟩)
 | (with_reducible refine AAny_pure 1 rfl rfl (by decide +kernel) (by decide +kernel) (fun K hK => ?_))
 | (with_reducible refine AAny_pure 2 rfl rfl (by decide +kernel) (by decide +kernel) (fun K hK => ?_))
 | (with_reducible refine AAny_pure 6 rfl rfl (by decide +kernel) (by decide +kernel) (fun K hK => ?_))
 | (with_reducible refine AAny_pure 7 rfl rfl (by decide +kernel) (by decide +kernel) (fun K hK => ?_))
 | (with_reducible refine AAny_pure 8 rfl rfl (by decide +kernel) (by decide +kernel) (fun K hK => ?_))
 | (with_reducible refine AAny_pure 10 rfl rfl (by decide +kernel) (by decide +kernel) (fun K hK => ?_))
 | (with_reducible refine AAny_step 0 [3] (by decide +kernel) ?_)
 | (with_reducible refine AAny_step 0 [4] (by decide +kernel) ?_)
 | (with_reducible refine AAny_step 0 [] (by decide +kernel) ?_)
 | (with_reducible refine AAny_step 3 [] (by decide +kernel) ?_)
 | (with_reducible refine AAny_step 4 [] (by decide +kernel) ?_)
 | (with_reducible refine AAny_step 5 [] (by decide +kernel) ?_)
 | (with_reducible refine AAny_step 9 [] (by decide +kernel) ?_)
 | (with_reducible refine AAll_cons rfl (fun K hK => ?_) ?_)
 | (with_reducible exact AAll_nil)
 | ((with_reducible show thenA _ _ _ _ _); simp only [thenA, blockA, if_true, if_false, reduceIte])
 | ((with_reducible show blockA _ _ _ _ _); simp only [thenA, blockA, if_true, if_false, reduceIte, Nat.reduceEqDiff, reduceCtorEq])
 | (with_reducible refine AOps_cons (fun K hK => ?_))
 | (with_reducible refine AQOps_cons (fun K hK => ?_))
 | ((with_reducible refine AQOps_nil ?_); try simp only [thenA, blockA, if_true, if_false, reduceIte, Nat.reduceEqDiff, reduceCtorEq])
 | ((with_reducible refine AOps_nil ?_); try simp only [thenA, blockA, if_true, if_false, reduceIte, Nat.reduceEqDiff, reduceCtorEq])
 | (with_reducible refine AW_block ?_)
 | ((first | (with_reducible refine AW_ret ?_) | (with_reducible refine AW_skip ?_) | (with_reducible refine AW_exit ?_)); try simp only [thenA, blockA, if_true, if_false, reduceIte, Nat.reduceEqDiff, reduceCtorEq])
 | ((with_reducible show AW _ _ (.cond _ _ _) _ _ _); refine AW_cond rfl (fun hg => ?_) (fun hg => ?_) <;> first | (exfalso; simp only [reduceCtorEq] at hg; done) | ((try simp only [Bool.not_eq_true', Bool.not_eq_false', decide_eq_true_eq, decide_eq_false_iff_not] at hg); try (exfalso; omega)))
 | ((with_reducible show _ ∧ _); refine And.intro (fun hg => ?_) (fun hg => ?_) <;> (try simp only [Bool.not_eq_true', Bool.not_eq_false'] at hg) <;> simp only [hg] <;> (try simp only [decide_eq_true_eq, decide_eq_false_iff_not] at hg) <;> (try (exfalso; omega)))
 | ((first | (with_reducible apply FunH_intro) | (with_reducible apply AQ_intro)); (first | ((with_reducible show FunH _ 7 _ _ _); exact hpz)))
 | (clear hK K)
        | fail)
      have hS2 := (hS1.app [rwZ (Zc (b.take (i + 1 - n)))]).set6 (A' := X.length) (c' := Zc (b.take (i + 1 - n))) ((hp_get0 _ _).trans rfl) (by omega)
      refine hK _ _ (i + 1, _, (A1, X.length, A3')) ⟨by simp only; omega, ?_⟩ (by simp only; omega) ?_ rfl
      · rw [List.take_of_length_le (show a.length ≤ i by omega)] at hS2
        rw [List.take_of_length_le (show a.length ≤ i + 1 by omega)]
        exact hS2
      · simp only [junkAll, setAll, List.foldl_cons, List.foldl_nil, List.set_cons_succ, List.set_cons_zero, JL, true_or, or_true, and_true, true_and, reduceCtorEq, false_or, or_false, LV.int.injEq, LV.bool.injEq, LV.flt.injEq, LV.sl.injEq, LV.ptr.injEq, eq_self, Int.natCast_add, Int.natCast_one, Int.natCast_zero, Int.ofNat_zero]
  · have hie : i = n + m := by omega
    rw [hie, List.take_of_length_le (show a.length ≤ n + m by omega), List.take_of_length_le (show b.length ≤ n + m - n by omega), List.take_of_length_le (show (a ++ b).length ≤ n + m by omega)] at hS
    obtain ⟨all, hal⟩ : ∃ all, a ++ b = all := ⟨_, rfl⟩
    have hkeys : keysB all = true := by
      unfold keysB
      rw [← hal, hall]
      have : decide (n + m ≤ 256) = true := decide_eq_true (by omega)
      rw [this, Bool.true_and]
      exact List.all_eq_true.2 hkall
    rw [hal] at hS hall hkall
    have hrc : RdL H (.sl (H0.length + 2) 2 0 (n + m) none) (all.map (LV.int .i64)) := RdL_id hS.kc (by rw [List.length_map, hall])
    have hr1 := rdZ hS.r1 (zlen a)
    have hr2 := rdZ hS.r2 (zlen b)
    have hr3 := rdZ hS.r3 (zlen all)
    have hr0 := rdZ hS.em (show z.length = 256 by rw [← znil]; exact zlen _)
    have hjz := iJoinZeros_c s _ _ (Zc a) (Zc b) H hr1 hr2 (zok a) (zok b) (by rw [zlen, zlen])
    have hjl : jzL (Zc a) (Zc b) 256 = Zc all := by
      rw [jzL_end _ _ (zlen a), ← hal, ← hZc]; exact zcL_join (zV_in s) a b
    rw [zlen, hjl] at hjz
    have zin : ∀ xs, ∀ x ∈ Zc xs, 0 ≤ x ∧ x ≤ 33 := fun xs => (zerB_in (zok xs)).2.2.2
    have hcp : ∀ xs, czP (Zc xs) (Zc xs).length = 256 - zuN (Zc xs) := fun xs => czP_zu (zlen xs) (zin xs)
    have hule : zuN (Zc all) ≤ dsN all := by rw [← hZc]; exact zuN_le (zV_in s) 256 all
    have hd20 := dsN_le all
    have hu1 : 1 ≤ zuN (Zc all) := by rw [← hZc]; exact zuN_pos (zV_in s) (by omega) (zA_lt s _)
    obtain ⟨u, hu⟩ : ∃ u, zuN (Zc all) = u := ⟨_, rfl⟩
    have hz0 : zuN (Zc []) = 0 := by
      have h1 : zuN (Zc []) ≤ dsN [] := by rw [← hZc]; exact zuN_le (zV_in s) 256 []
      exact Nat.le_zero.1 h1
    obtain ⟨v0, k0⟩ := czV_few (zlen []) (zin []) (u := 0) (by omega) (by rw [hcp, hz0])
    rw [znil] at v0
    rw [hu] at hule hu1
    obtain ⟨v1, k1⟩ := czV_few (zlen all) (zin all) (u := u) (by omega) (by rw [hcp, hu])
    have hc0 := fun K => iCountOfZeros_c s _ z (H ++ K) (hr0.app K) (by rw [← znil, zlen]; decide)
    have hc1 := fun K => iCountOfZeros_c s _ (Zc all) (H ++ K) (hr3.app K) (by rw [zlen]; decide)
    have zok0 := zok []
    rw [znil] at zok0
    simp only [zok0, if_true, v0] at hc0
    simp only [zok all, if_true, v1] at hc1
    unfold chkU at k0 k1
    simp only [Bool.and_eq_true, Bool.not_eq_true', Bool.or_eq_true, decide_eq_true_eq] at k0 k1
    have f0 : fEq .f32 (cvU 0) (some 0) = true := by rcases k0.2 with h | h; exact absurd rfl h; exact h
    obtain ⟨⟨⟨_, f1⟩, f2⟩, _⟩ := k1
    clear k0
    have hvz := fun K lv (h : RdL K lv ((Zc all).map (LV.int .i64))) => iValidZeros_c s lv (Zc all) K h (by rw [zlen]; decide)
    simp only [zok all] at hvz
    have h256 : (((256 : Nat) : Int) != 256) = false := by decide
    repeat' (first
 | ((with_reducible refine hK _ _ ?_); clear hK K)
 | ((first | (with_reducible show AOp _ _ _ _ _ _ _)); simp (disch := first | ((with_reducible show liveO _ _ _ = true); first | assumption | (exact liveO_at' b16) | (exact liveO_at' hSY.b12) | (exact liveO_setS (by assumption)) | (exact PtL.live (by assumption)) | (exact PtL.liveA (by assumption) _) | (simp only [go_sem]; done)) | omega | assumption | rfl | (simp only [go_sem]; first | done | omega)) only [go_sem, reduceIte, reduceCtorEq, Nat.reduceAdd, Nat.reduceMul, Nat.reduceSub, Nat.reduceLeDiff, Nat.lt_irrefl, Nat.reduceLT, Nat.reduceEqDiff, Nat.reduceBEq, Int.reduceLE, Int.reduceLT, Int.reduceToNat, w64, eq_self, hall, gbZ0 hS.b10, gbZ0 hS.b11, gbZ hS.b9, gbZ hS.b12, f0, h256])
 | (with_reducible refine AW_seq (fun K hK => ?_))
 | (with_reducible refine AW_region tyOk ?_)
 | (with_reducible refine AOps_cons (fun K hK => ?_))
 | ((with_reducible refine AOps_nil ?_); try simp only [thenA, blockA, if_true, if_false, reduceIte, Nat.reduceEqDiff, reduceCtorEq])
 | (with_reducible refine AW_block ?_)
 | ((first | (with_reducible refine AW_ret ?_) | (with_reducible refine AW_skip ?_) | (with_reducible refine AW_exit ?_)); try simp only [thenA, blockA, if_true, if_false, reduceIte, Nat.reduceEqDiff, reduceCtorEq])
 | ((with_reducible show AW _ _ (.cond _ _ _) _ _ _); refine AW_cond rfl (fun hg => ?_) (fun hg => ?_) <;> first | (exfalso; simp only [reduceCtorEq] at hg; done) | ((try simp only [Bool.not_eq_true', Bool.not_eq_false', decide_eq_true_eq, decide_eq_false_iff_not] at hg); try (exfalso; omega)))
 | ((with_reducible show _ ∧ _); refine And.intro (fun hg => ?_) (fun hg => ?_) <;> (try simp only [Bool.not_eq_true', Bool.not_eq_false'] at hg) <;> simp only [hg] <;> (try simp only [decide_eq_true_eq, decide_eq_false_iff_not] at hg) <;> (try (exfalso; omega)))
 | ((with_reducible apply FunH_intro); (first | ((with_reducible show FunH _ 8 _ _ _); exact hjz) | ((with_reducible show FunH _ 9 _ _ _); exact hc0 _) | ((with_reducible show FunH _ 9 _ _ _); exact hc1 _) | ((with_reducible show FunH _ 10 _ _ _); exact hvz _ _ (RdL_h0 rfl (by rw [List.length_map, zlen])))))
 | (clear hK K)
      | fail)
    have hSY := hS.app [rwZ (Zc all), bxZ s H.length]
    have r16 : (H ++ [rwZ (Zc all), bxZ s H.length])[H.length]? = some (rwZ (Zc all)) := (hp_get0 _ _).trans rfl
    have b16 : (H ++ [rwZ (Zc all), bxZ s H.length])[H.length + 1]? = some (bxZ s H.length) := (hp_getj _ _ _).trans rfl
    obtain ⟨Y, hY⟩ : ∃ Y, H ++ [rwZ (Zc all), bxZ s H.length] = Y := ⟨_, rfl⟩
    rw [hY] at hSY r16 b16
    simp only [rwZ, bxZ] at hY
    rw [hY]
    clear hY hr0 hr1 hr2 hr3 hrc hjz hc0 hc1 hvz hS
    have q16 := rdZ r16 (zlen all)
    have q12 := rdZ hSY.r3 (zlen all)
    have g16 := fun o => hget_at' (off := o) b16
    have g12 := fun o => hget_at' (off := o) hSY.b12
    have zl := zlen all
    have l16 : liveO Y (H.length + 1) 0 = true := liveO_at' b16
    have l12 : liveO Y (H0.length + 7) 0 = true := liveO_at' hSY.b12
    refine AW_loopV [4, 22, 23, 154, 155, 156, 157, 158, 159, 160, 161, 162, 163, 164, 165, 166, 167, 168, 169, 170, 171, 172, 173, 174, 175, 176] (fun j : Nat => [(22, .int .i64 ((zuN ((Zc all).take j) : Nat) : Int)), (23, .int .i64 (j : Nat))]) (fun _ => Y) (fun j => j ≤ 256) (fun j => 256 - j) 0 (Nat.zero_le _) ?_ rfl ?_
    · simp only [junkAll, setAll, List.foldl_cons, List.foldl_nil, List.set_cons_succ, List.set_cons_zero, JL, true_or, or_true, and_true, true_and, reduceCtorEq, false_or, or_false, LV.int.injEq, LV.bool.injEq, LV.flt.injEq, LV.sl.injEq, LV.ptr.injEq, eq_self, Int.natCast_add, Int.natCast_one, Int.natCast_zero, Int.ofNat_zero]; rfl
    intro j hj K hK
    simp only [junkAll, setAll, List.foldl_cons, List.foldl_nil, List.set_cons_succ, List.set_cons_zero]
    by_cases hj2 : j < 256
    · have hst : zuN ((Zc all).take (j + 1)) = zuN ((Zc all).take j) + if 0 < ix (Zc all) j then 1 else 0 := by
        unfold zuN
        rw [take_ix _ _ (by omega), List.countP_append, List.countP_singleton]
        simp
      have hle : zuN ((Zc all).take j) ≤ j := Nat.le_trans List.countP_le_length (by rw [List.length_take]; omega)
      obtain ⟨v, hv⟩ : ∃ v, ix (Zc all) j = v := ⟨_, rfl⟩
      rw [hv] at hst
      have hvv : (v != v) = false := by simp
      by_cases h0 : 0 < v
      · rw [if_pos h0] at hst
        repeat' (first
 | ((with_reducible refine hK _ _ ?_); clear hK K)
 | ((with_reducible refine hK _ ?_); clear hK K; try simp only [])
 | ((first | (with_reducible show AOp _ _ _ _ _ _ _) | (with_reducible show AQOp _ _ _ _ _ _ _)); simp (disch := first | ((with_reducible show liveO _ _ _ = true); first | assumption | (exact liveO_at' b16) | (exact liveO_at' hSY.b12) | (exact liveO_setS (by assumption)) | (exact PtL.live (by assumption)) | (exact PtL.liveA (by assumption) _) | (simp only [go_sem]; done)) | omega | assumption | rfl | (simp only [go_sem]; first | done | omega)) only [go_sem, reduceIte, reduceCtorEq, Nat.reduceAdd, Nat.reduceMul, Nat.reduceSub, Nat.reduceLeDiff, Nat.lt_irrefl, Nat.reduceLT, Nat.reduceEqDiff, Nat.reduceBEq, Int.reduceLE, Int.reduceLT, Int.reduceToNat, w64, eq_self, l16, l12, g16, g12, q16.idxm, q16.ldm, q12.idxm, q12.ldm, zl, hv, hvv, h0])
 | (with_reducible refine AW_seq (fun K hK => ?_))
 | (with_reducible refine AW_region tyOk ?_)
 | ((with_reducible refine AW_quiet (id := 32) tyOk ?_ ?_ ?_); (kernel_rfl); (kernel_rfl))
 | (with_reducible refine AOps_cons (fun K hK => ?_))
 | (with_reducible refine AQOps_cons (fun K hK => ?_))
 | ((with_reducible refine AQOps_nil ?_); try simp only [thenA, blockA, if_true, if_false, reduceIte, Nat.reduceEqDiff, reduceCtorEq])
 | ((with_reducible refine AOps_nil ?_); try simp only [thenA, blockA, if_true, if_false, reduceIte, Nat.reduceEqDiff, reduceCtorEq])
 | (with_reducible refine AW_block ?_)
 | ((first | (with_reducible refine AW_ret ?_) | (with_reducible refine AW_skip ?_) | (with_reducible refine AW_exit ?_)); try simp only [thenA, blockA, if_true, if_false, reduceIte, Nat.reduceEqDiff, reduceCtorEq])
 | ((with_reducible show AW _ _ (.cond _ _ _) _ _ _); refine AW_cond rfl (fun hg => ?_) (fun hg => ?_) <;> first | (exfalso; simp only [reduceCtorEq] at hg; done) | ((try simp only [Bool.not_eq_true', Bool.not_eq_false', decide_eq_true_eq, decide_eq_false_iff_not] at hg); try (exfalso; omega)))
 | ((with_reducible show _ ∧ _); refine And.intro (fun hg => ?_) (fun hg => ?_) <;> (try simp only [Bool.not_eq_true', Bool.not_eq_false'] at hg) <;> simp only [hg] <;> (try simp only [decide_eq_true_eq, decide_eq_false_iff_not] at hg) <;> (try (exfalso; omega)))
 | (clear hK K)
          | fail)
        refine hK _ _ (j + 1) (by omega) (by omega) ?_ rfl
        simp only [junkAll, setAll, List.foldl_cons, List.foldl_nil, List.set_cons_succ, List.set_cons_zero, JL, true_or, or_true, and_true, true_and, reduceCtorEq, false_or, or_false, LV.int.injEq, LV.bool.injEq, LV.flt.injEq, LV.sl.injEq, LV.ptr.injEq, eq_self, Int.natCast_add, Int.natCast_one, Int.natCast_zero, Int.ofNat_zero]; rw [hst]; omega
      · rw [if_neg h0] at hst
        repeat' (first
 | ((with_reducible refine hK _ _ ?_); clear hK K)
 | ((with_reducible refine hK _ ?_); clear hK K; try simp only [])
 | ((first | (with_reducible show AOp _ _ _ _ _ _ _) | (with_reducible show AQOp _ _ _ _ _ _ _)); simp (disch := first | ((with_reducible show liveO _ _ _ = true); first | assumption | (exact liveO_at' b16) | (exact liveO_at' hSY.b12) | (exact liveO_setS (by assumption)) | (exact PtL.live (by assumption)) | (exact PtL.liveA (by assumption) _) | (simp only [go_sem]; done)) | omega | assumption | rfl | (simp only [go_sem]; first | done | omega)) only [go_sem, reduceIte, reduceCtorEq, Nat.reduceAdd, Nat.reduceMul, Nat.reduceSub, Nat.reduceLeDiff, Nat.lt_irrefl, Nat.reduceLT, Nat.reduceEqDiff, Nat.reduceBEq, Int.reduceLE, Int.reduceLT, Int.reduceToNat, w64, eq_self, l16, l12, g16, g12, q16.idxm, q16.ldm, q12.idxm, q12.ldm, zl, hv, hvv, h0])
 | (with_reducible refine AW_seq (fun K hK => ?_))
 | (with_reducible refine AW_region tyOk ?_)
 | ((with_reducible refine AW_quiet (id := 32) tyOk ?_ ?_ ?_); (kernel_rfl); (kernel_rfl))
 | (with_reducible refine AOps_cons (fun K hK => ?_))
 | (with_reducible refine AQOps_cons (fun K hK => ?_))
 | ((with_reducible refine AQOps_nil ?_); try simp only [thenA, blockA, if_true, if_false, reduceIte, Nat.reduceEqDiff, reduceCtorEq])
 | ((with_reducible refine AOps_nil ?_); try simp only [thenA, blockA, if_true, if_false, reduceIte, Nat.reduceEqDiff, reduceCtorEq])
 | (with_reducible refine AW_block ?_)
 | ((first | (with_reducible refine AW_ret ?_) | (with_reducible refine AW_skip ?_) | (with_reducible refine AW_exit ?_)); try simp only [thenA, blockA, if_true, if_false, reduceIte, Nat.reduceEqDiff, reduceCtorEq])
 | ((with_reducible show AW _ _ (.cond _ _ _) _ _ _); refine AW_cond rfl (fun hg => ?_) (fun hg => ?_) <;> first | (exfalso; simp only [reduceCtorEq] at hg; done) | ((try simp only [Bool.not_eq_true', Bool.not_eq_false', decide_eq_true_eq, decide_eq_false_iff_not] at hg); try (exfalso; omega)))
 | ((with_reducible show _ ∧ _); refine And.intro (fun hg => ?_) (fun hg => ?_) <;> (try simp only [Bool.not_eq_true', Bool.not_eq_false'] at hg) <;> simp only [hg] <;> (try simp only [decide_eq_true_eq, decide_eq_false_iff_not] at hg) <;> (try (exfalso; omega)))
 | (clear hK K)
          | fail)
        refine hK _ _ (j + 1) (by omega) (by omega) ?_ rfl
        simp only [junkAll, setAll, List.foldl_cons, List.foldl_nil, List.set_cons_succ, List.set_cons_zero, JL, true_or, or_true, and_true, true_and, reduceCtorEq, false_or, or_false, LV.int.injEq, LV.bool.injEq, LV.flt.injEq, LV.sl.injEq, LV.ptr.injEq, eq_self, Int.natCast_add, Int.natCast_one, Int.natCast_zero, Int.ofNat_zero]; rw [hst]; rfl
    · have hje : j = 256 := by omega
      have hju : zuN ((Zc all).take j) = u := by rw [hje, List.take_of_length_le (by omega), hu]
      rw [hju]
      have hrY : RdL Y (.sl (H0.length + 2) 2 0 (n + m) none) (all.map (LV.int .i64)) := RdL_id hSY.kc (by rw [List.length_map, hall])
      have hu1' : ¬ ((u : Int) < 1) := by omega
      have hud : ¬ (((dsN all : Nat) : Int) < (u : Int)) := by omega
      repeat' (first
 | ((with_reducible refine hK _ _ ?_); clear hK K)
 | ((first | (with_reducible show AOp _ _ _ _ _ _ _)); simp (disch := first | ((with_reducible show liveO _ _ _ = true); first | assumption | (exact liveO_at' b16) | (exact liveO_at' hSY.b12) | (exact liveO_setS (by assumption)) | (exact PtL.live (by assumption)) | (exact PtL.liveA (by assumption) _) | (simp only [go_sem]; done)) | omega | assumption | rfl | (simp only [go_sem]; first | done | omega)) only [go_sem, reduceIte, reduceCtorEq, Nat.reduceAdd, Nat.reduceMul, Nat.reduceSub, Nat.reduceLeDiff, Nat.lt_irrefl, Nat.reduceLT, Nat.reduceEqDiff, Nat.reduceBEq, Int.reduceLE, Int.reduceLT, Int.reduceToNat, w64, eq_self, hu1', hud, cvC32, f1, f2])
 | ((with_reducible refine AW_seqN [39] ?_ (fun K hK => ?_)); (exact rfl))
 | (with_reducible refine AW_region tyOk ?_)
 | (with_reducible refine AOps_cons (fun K hK => ?_))
 | ((with_reducible refine AOps_nil ?_); try simp only [thenA, blockA, if_true, if_false, reduceIte, Nat.reduceEqDiff, reduceCtorEq])
 | (with_reducible refine AW_block ?_)
 | ((first | (with_reducible refine AW_ret ?_) | (with_reducible refine AW_skip ?_) | (with_reducible refine AW_exit ?_)); try simp only [thenA, blockA, if_true, if_false, reduceIte, Nat.reduceEqDiff, reduceCtorEq])
 | ((with_reducible show AW _ _ (.cond _ _ _) _ _ _); refine AW_cond rfl (fun hg => ?_) (fun hg => ?_) <;> first | (exfalso; simp only [reduceCtorEq] at hg; done) | ((try simp only [Bool.not_eq_true', Bool.not_eq_false', decide_eq_true_eq, decide_eq_false_iff_not] at hg); try (exfalso; omega)))
 | ((with_reducible show _ ∧ _); refine And.intro (fun hg => ?_) (fun hg => ?_) <;> (try simp only [Bool.not_eq_true', Bool.not_eq_false'] at hg) <;> simp only [hg] <;> (try simp only [decide_eq_true_eq, decide_eq_false_iff_not] at hg) <;> (try (exfalso; omega)))
 | ((with_reducible apply FunH_intro); (first | ((with_reducible show FunH _ 11 _ _ _); exact r8Distinct_c _ all Y hrY (by omega))))
 | (clear hK K)
        | fail)
      obtain ⟨KY, hKY⟩ := hSY.pre
      have ha1Y : RdL Y a1v (a1x.map (LV.int .u8)) := by rw [hKY]; exact ha1x.app _
      have hrA : RdL Y (.sl H0.length 0 0 n none) (a.map (LV.int .i64)) := rdZ hSY.ka hla
      have hrB : RdL Y (.sl (H0.length + 1) 0 0 m none) (b.map (LV.int .i64)) := rdZ hSY.kb hlb
      have hkeysOf : ∀ xs : List Int, xs.length ≤ 256 → (∀ x ∈ xs, 0 ≤ x ∧ x ≤ 4294967295) → keysB xs = true := fun xs h1 h2 => by
        unfold keysB
        rw [decide_eq_true h1, Bool.true_and]
        exact List.all_eq_true.2 fun x hx => (keyB_iff x).2 (h2 x hx)
      have hkeysA := hkeysOf a (by omega) hka
      have hkeysB := hkeysOf b (by omega) hkb
      have hin : inB room 1 256 = true := by
        unfold inB; rw [decide_eq_true (by omega), decide_eq_true (by omega)]; rfl
      have hin2 : inB 256 1 256 = true := by decide
      obtain ⟨oA, eA⟩ := lhL_eq hkeysA hks hin
      obtain ⟨oB, eB⟩ := lhL_eq hkeysB hks hin
      obtain ⟨oC, eC⟩ := lhL_eq hkeys hks hin
      obtain ⟨oW, eW⟩ := lhL_eq hkeys hks hin2
      have cA := iLeastHashes_c _ a s room Y hrA (by omega)
      have cB := fun K => iLeastHashes_c _ b s room (Y ++ K) (hrB.app K) (by omega)
      have cC := fun K => iLeastHashes_c _ all s room (Y ++ K) (hrY.app K) (by omega)
      have cW := fun K => iLeastHashes_c _ all s 256 (Y ++ K) (hrY.app K) (by omega)
      rw [oA, eA] at cA
      simp only [oB, eB] at cB
      simp only [oC, eC] at cC
      simp only [oW, eW] at cW
      have pA := risB_lst a s room (by omega)
      have pB := risB_lst b s room (by omega)
      have hroomN : room.toNat ≤ 12 := by omega
      have lA := lstU_len (rowI a s) room
      have lB := lstU_len (rowI b s) room
      have lC := lstU_len (rowI all s) room
      have hrl : ∀ xs : List Int, (rowI xs s).length = xs.length := fun xs => List.length_map ..
      have zA0 := lstU_pos (xs := rowI a s) (room := room) (by rw [hrl]; omega) (by omega)
      have zC0 := lstU_pos (xs := rowI all s) (room := room) (by rw [hrl]; omega) (by omega)
      have pC := risB_lst all s room (by omega)
      have pW := risB_lst all s 256 (by omega)
      have lW : (lstU (rowI all s) 256).length ≤ dsN all := by
        have h1 : dsN (rowI all s) ≤ dsN all := dsN_map _ all
        have h2 : (lstU (rowI all s) 256).length ≤ dsN (rowI all s) := by unfold lstU dsN; rw [List.length_take]; omega
        omega
      have zW0 := lstU_pos (xs := rowI all s) (room := 256) (by rw [hrl]; omega) (by omega)
      have eJ : lstU (lstU (rowI a s) room ++ lstU (rowI b s) room) room = lstU (rowI all s) room := by rw [lstU_join, ← rowI_app, hal]
      obtain ⟨jo, je⟩ := jlL_eq hin pA pB
      obtain ⟨ko, ke⟩ := jlL_eq hin pA pA
      rw [eJ] at je
      rw [lstU_self] at ke
      obtain ⟨mo, me⟩ := molV_eq jo (by rw [je]; exact zC0)
      obtain ⟨so, se⟩ := molV_eq ko (by rw [ke]; exact zA0)
      rw [je] at me
      rw [ke, metN_self] at se
      have ahead := fun i h => lst_ahead (rowI all s) (room := room) (big := 256) (by omega) (i := i) h
      have incr := fun i h0 h => lst_inc (rowI all s) room (i := i) h0 h
      obtain ⟨P, hP⟩ : ∃ P, lstU (rowI a s) room = P := ⟨_, rfl⟩
      obtain ⟨Q, hQ⟩ : ∃ Q, lstU (rowI b s) room = Q := ⟨_, rfl⟩
      obtain ⟨R, hR⟩ : ∃ R, lstU (rowI all s) room = R := ⟨_, rfl⟩
      obtain ⟨W, hW⟩ : ∃ W, lstU (rowI all s) 256 = W := ⟨_, rfl⟩
      rw [hP] at cA pA lA zA0 jo je ko ke mo me so se
      rw [hQ] at pB lB jo je mo me
      simp only [hQ] at cB
      rw [hR] at lC zC0 pC je me
      simp only [hR] at cC ahead incr
      rw [hW] at lW zW0 pW
      simp only [hW] at cW ahead
      clear eA eB eC eW eJ
      have cJ := fun K x y (h : RdL K x (P.map (LV.int .i64))) (h' : RdL K y (Q.map (LV.int .i64))) => iJoinLeast_c x y P Q room K h h' (by omega) (by omega)
      rw [jo, je] at cJ
      have cN := fun K x (h : RdL K x (W.map (LV.int .i64))) => iCountOfLeast_c x W 256 K h zW0 hin2 pW
      have cN2 := fun K x (h : RdL K x (R.map (LV.int .i64))) => iCountOfLeast_c x R room K h zC0 hin pC
      have cS := fun K x (h : RdL K x (P.map (LV.int .i64))) => iMeetOfLeast_c x x P P room K h h (by omega) (by omega)
      rw [so, se] at cS
      have cP := fun K x y (h : RdL K x (P.map (LV.int .i64))) (h' : RdL K y (Q.map (LV.int .i64))) => iMeetOfLeast_c x y P Q room K h h' (by omega) (by omega)
      rw [mo, me] at cP
      have fS := share_one P.length (by omega) zA0
      obtain ⟨fP1, fP2⟩ := share_in R.length (by omega) zC0 (metN R P Q R.length) (metN_le _ _ _ _)
      repeat' (first
 | ((with_reducible refine hK _ _ ?_); clear hK K)
 | ((first | (with_reducible show AOp _ _ _ _ _ _ _)); simp (disch := first | ((with_reducible show liveO _ _ _ = true); first | assumption | (exact liveO_at' b16) | (exact liveO_at' hSY.b12) | (exact liveO_setS (by assumption)) | (exact PtL.live (by assumption)) | (exact PtL.liveA (by assumption) _) | (simp only [go_sem]; done)) | omega | assumption | rfl | (simp only [go_sem]; first | done | omega)) only [go_sem, reduceIte, reduceCtorEq, Nat.reduceAdd, Nat.reduceMul, Nat.reduceSub, Nat.reduceLeDiff, Nat.lt_irrefl, Nat.reduceLT, Nat.reduceEqDiff, Nat.reduceBEq, Int.reduceLE, Int.reduceLT, Int.reduceToNat, w64, eq_self, hroom])
 | ((with_reducible refine AW_seqN [43] ?_ (fun K hK => ?_)); (exact rfl))
 | (with_reducible refine AW_region tyOk ?_)
 | (with_reducible refine AOps_cons (fun K hK => ?_))
 | ((with_reducible refine AOps_nil ?_); try simp only [thenA, blockA, if_true, if_false, reduceIte, Nat.reduceEqDiff, reduceCtorEq])
 | (with_reducible refine AW_block ?_)
 | ((first | (with_reducible refine AW_ret ?_) | (with_reducible refine AW_skip ?_) | (with_reducible refine AW_exit ?_)); try simp only [thenA, blockA, if_true, if_false, reduceIte, Nat.reduceEqDiff, reduceCtorEq])
 | ((with_reducible show AW _ _ (.cond _ _ _) _ _ _); refine AW_cond rfl (fun hg => ?_) (fun hg => ?_) <;> first | (exfalso; simp only [reduceCtorEq] at hg; done) | ((try simp only [Bool.not_eq_true', Bool.not_eq_false', decide_eq_true_eq, decide_eq_false_iff_not] at hg); try (exfalso; omega)))
 | ((with_reducible show _ ∧ _); refine And.intro (fun hg => ?_) (fun hg => ?_) <;> (try simp only [Bool.not_eq_true', Bool.not_eq_false'] at hg) <;> simp only [hg] <;> (try simp only [decide_eq_true_eq, decide_eq_false_iff_not] at hg) <;> (try (exfalso; omega)))
 | ((with_reducible apply FunH_intro); (first | ((with_reducible show FunH _ 6 _ _ _); exact hA3 _ ha1Y) | ((with_reducible show FunH _ 12 _ _ _); exact cA) | ((with_reducible show FunH _ 12 _ _ _); exact cB _) | ((with_reducible show FunH _ 12 _ _ _); exact cC _)))
 | (clear hK K)
        | fail)
      repeat' (first
 | ((with_reducible refine hK _ _ ?_); clear hK K)
 | ((first | (with_reducible show AOp _ _ _ _ _ _ _)); simp (disch := first | ((with_reducible show liveO _ _ _ = true); first | assumption | (exact liveO_at' b16) | (exact liveO_at' hSY.b12) | (exact liveO_setS (by assumption)) | (exact PtL.live (by assumption)) | (exact PtL.liveA (by assumption) _) | (simp only [go_sem]; done)) | omega | assumption | rfl | (simp only [go_sem]; first | done | omega)) only [go_sem, reduceIte, reduceCtorEq, Nat.reduceAdd, Nat.reduceMul, Nat.reduceSub, Nat.reduceLeDiff, Nat.lt_irrefl, Nat.reduceLT, Nat.reduceEqDiff, Nat.reduceBEq, Int.reduceLE, Int.reduceLT, Int.reduceToNat, w64, eq_self])
 | ((with_reducible refine AW_seqN [48] ?_ (fun K hK => ?_)); (exact rfl))
 | (with_reducible refine AW_region tyOk ?_)
 | (with_reducible refine AOps_cons (fun K hK => ?_))
 | ((with_reducible refine AOps_nil ?_); try simp only [thenA, blockA, if_true, if_false, reduceIte, Nat.reduceEqDiff, reduceCtorEq])
 | (with_reducible refine AW_block ?_)
 | ((first | (with_reducible refine AW_ret ?_) | (with_reducible refine AW_skip ?_) | (with_reducible refine AW_exit ?_)); try simp only [thenA, blockA, if_true, if_false, reduceIte, Nat.reduceEqDiff, reduceCtorEq])
 | ((with_reducible show AW _ _ (.cond _ _ _) _ _ _); refine AW_cond rfl (fun hg => ?_) (fun hg => ?_) <;> first | (exfalso; simp only [reduceCtorEq] at hg; done) | ((try simp only [Bool.not_eq_true', Bool.not_eq_false', decide_eq_true_eq, decide_eq_false_iff_not] at hg); try (exfalso; omega)))
 | ((with_reducible show _ ∧ _); refine And.intro (fun hg => ?_) (fun hg => ?_) <;> (try simp only [Bool.not_eq_true', Bool.not_eq_false'] at hg) <;> simp only [hg] <;> (try simp only [decide_eq_true_eq, decide_eq_false_iff_not] at hg) <;> (try (exfalso; omega)))
 | ((with_reducible apply FunH_intro); (first | ((with_reducible show FunH _ 13 _ _ _); exact cJ _ _ _ (RdL_h0 rfl (by rw [List.length_map])) (RdL_hj rfl (by rw [List.length_map]))) | ((with_reducible show FunH _ 12 _ _ _); exact cW _) | ((with_reducible show FunH _ 14 _ _ _); exact cN _ _ (RdL_hj rfl (by rw [List.length_map]))) | ((with_reducible show FunH _ 15 _ _ _); exact cS _ _ (RdL_h0 rfl (by rw [List.length_map]))) | ((with_reducible show FunH _ 15 _ _ _); exact cP _ _ _ (RdL_h0 rfl (by rw [List.length_map])) (RdL_hj rfl (by rw [List.length_map])))))
 | (clear hK K)
        | fail)
      have hcv : cvL W 256 = some (FloatKind.f32.nearest ((W.length : Nat) : Int)) := by unfold cvL; rw [if_pos (by omega)]
      have hwd : ¬ (((dsN all : Nat) : Int) < ((W.length : Nat) : Int)) := by omega
      have hzr : ¬ (room < ((R.length : Nat) : Int)) := by omega
      repeat' (first
 | ((with_reducible refine hK _ _ ?_); clear hK K)
 | ((first | (with_reducible show AOp _ _ _ _ _ _ _)); simp (disch := first | ((with_reducible show liveO _ _ _ = true); first | assumption | (exact liveO_at' b16) | (exact liveO_at' hSY.b12) | (exact liveO_setS (by assumption)) | (exact PtL.live (by assumption)) | (exact PtL.liveA (by assumption) _) | (simp only [go_sem]; done)) | omega | assumption | rfl | (simp only [go_sem]; first | done | omega)) only [go_sem, reduceIte, reduceCtorEq, Nat.reduceAdd, Nat.reduceMul, Nat.reduceSub, Nat.reduceLeDiff, Nat.lt_irrefl, Nat.reduceLT, Nat.reduceEqDiff, Nat.reduceBEq, Int.reduceLE, Int.reduceLT, Int.reduceToNat, w64, eq_self])
 | (with_reducible refine AW_seq (fun K hK => ?_))
 | (with_reducible refine AW_region tyOk ?_)
 | (with_reducible refine AOps_cons (fun K hK => ?_))
 | ((with_reducible refine AOps_nil ?_); try simp only [thenA, blockA, if_true, if_false, reduceIte, Nat.reduceEqDiff, reduceCtorEq])
 | (with_reducible refine AW_block ?_)
 | ((first | (with_reducible refine AW_ret ?_) | (with_reducible refine AW_skip ?_) | (with_reducible refine AW_exit ?_)); try simp only [thenA, blockA, if_true, if_false, reduceIte, Nat.reduceEqDiff, reduceCtorEq])
 | ((with_reducible show AW _ _ (.cond _ _ _) _ _ _); refine AW_cond rfl (fun hg => ?_) (fun hg => ?_) <;> first | (exfalso; simp only [reduceCtorEq] at hg; done) | ((try simp only [Bool.not_eq_true', Bool.not_eq_false', decide_eq_true_eq, decide_eq_false_iff_not] at hg); try (exfalso; omega)))
 | ((with_reducible show _ ∧ _); refine And.intro (fun hg => ?_) (fun hg => ?_) <;> (try simp only [Bool.not_eq_true', Bool.not_eq_false'] at hg) <;> simp only [hg] <;> (try simp only [decide_eq_true_eq, decide_eq_false_iff_not] at hg) <;> (try (exfalso; omega)))
 | (clear hK K)
        | fail)
      dsimp only [List.append_eq, List.cons_append, List.nil_append]
      have hti := toI_few W.length (by omega)
      have hmn : IntKind.i64.min ≤ ((W.length : Nat) : Int) := by show (-9223372036854775808 : Int) ≤ _; omega
      have hmx : ((W.length : Nat) : Int) ≤ IntKind.i64.max := by show _ ≤ (9223372036854775807 : Int); omega
      have hwe : (((W.length : Nat) : Int) != ((W.length : Nat) : Int)) = false := by simp
      repeat' (first
 | ((with_reducible refine hK _ _ ?_); clear hK K)
 | ((first | (with_reducible show AOp _ _ _ _ _ _ _)); simp (disch := first | ((with_reducible show liveO _ _ _ = true); first | assumption | (exact liveO_at' b16) | (exact liveO_at' hSY.b12) | (exact liveO_setS (by assumption)) | (exact PtL.live (by assumption)) | (exact PtL.liveA (by assumption) _) | (simp only [go_sem]; done)) | omega | assumption | rfl | (simp only [go_sem]; first | done | omega)) only [go_sem, reduceIte, reduceCtorEq, Nat.reduceAdd, Nat.reduceMul, Nat.reduceSub, Nat.reduceLeDiff, Nat.lt_irrefl, Nat.reduceLT, Nat.reduceEqDiff, Nat.reduceBEq, Int.reduceLE, Int.reduceLT, Int.reduceToNat, w64, eq_self, hcv, hti, hmn, hmx, hwe, hwd, hzr, fS, fP1, fP2])
 | (with_reducible refine AW_seq (fun K hK => ?_))
 | (with_reducible refine AW_region tyOk ?_)
 | (with_reducible refine AOps_cons (fun K hK => ?_))
 | ((with_reducible refine AOps_nil ?_); try simp only [thenA, blockA, if_true, if_false, reduceIte, Nat.reduceEqDiff, reduceCtorEq])
 | (with_reducible refine AW_block ?_)
 | ((first | (with_reducible refine AW_ret ?_) | (with_reducible refine AW_skip ?_) | (with_reducible refine AW_exit ?_)); try simp only [thenA, blockA, if_true, if_false, reduceIte, Nat.reduceEqDiff, reduceCtorEq])
 | ((with_reducible show AW _ _ (.cond _ _ _) _ _ _); refine AW_cond rfl (fun hg => ?_) (fun hg => ?_) <;> first | (exfalso; simp only [reduceCtorEq] at hg; done) | ((try simp only [Bool.not_eq_true', Bool.not_eq_false', decide_eq_true_eq, decide_eq_false_iff_not] at hg); try (exfalso; omega)))
 | ((with_reducible show _ ∧ _); refine And.intro (fun hg => ?_) (fun hg => ?_) <;> (try simp only [Bool.not_eq_true', Bool.not_eq_false'] at hg) <;> simp only [hg] <;> (try simp only [decide_eq_true_eq, decide_eq_false_iff_not] at hg) <;> (try (exfalso; omega)))
 | ((with_reducible apply FunH_intro); (first | ((with_reducible show FunH _ 16 _ _ _); exact r8Same_c _ _ R _ (RdL_hj rfl (by rw [List.length_map])) (RdL_hj rfl (by rw [List.length_map])) (by omega))))
 | (clear hK K)
        | fail)
      have h30 : RdL (Y ++ [(⟨0, false, 2, 1, P.map (LV.int .i64)⟩ : AO), ⟨0, false, 2, 1, Q.map (LV.int .i64)⟩, ⟨0, false, 2, 1, R.map (LV.int .i64)⟩, ⟨0, false, 2, 1, R.map (LV.int .i64)⟩, ⟨0, false, 2, 1, W.map (LV.int .i64)⟩]) (.sl (Y.length + 2) 0 0 R.length none) (R.map (LV.int .i64)) := RdL_hj rfl (by rw [List.length_map])
      have h34 : RdL (Y ++ [(⟨0, false, 2, 1, P.map (LV.int .i64)⟩ : AO), ⟨0, false, 2, 1, Q.map (LV.int .i64)⟩, ⟨0, false, 2, 1, R.map (LV.int .i64)⟩, ⟨0, false, 2, 1, R.map (LV.int .i64)⟩, ⟨0, false, 2, 1, W.map (LV.int .i64)⟩]) (.sl (Y.length + 4) 0 0 W.length none) (W.map (LV.int .i64)) := RdL_hj rfl (by rw [List.length_map])
      obtain ⟨Y2, hY2⟩ : ∃ Y2, Y ++ [(⟨0, false, 2, 1, P.map (LV.int .i64)⟩ : AO), ⟨0, false, 2, 1, Q.map (LV.int .i64)⟩, ⟨0, false, 2, 1, R.map (LV.int .i64)⟩, ⟨0, false, 2, 1, R.map (LV.int .i64)⟩, ⟨0, false, 2, 1, W.map (LV.int .i64)⟩] = Y2 := ⟨_, rfl⟩
      rw [hY2] at h30 h34 ⊢
      clear hY2 cA cB cC cW cJ cN cS cP
      have hkR := (keyB_iff _).1 (List.all_eq_true.1 (by unfold risB at pC; simp only [Bool.and_eq_true] at pC; exact pC.1.2) _ (ix_mem R (R.length - 1) (by omega)))
      have hge := cvL_ge (xs := R) (room := room) (by omega) (by omega) hkR
      refine AW_loopV [4, 42, 326, 327, 328, 329, 330, 331, 332, 333, 334, 335, 336, 337, 338, 339, 340, 341, 342, 343, 344, 345, 346, 347, 348, 349, 350, 351, 352] (fun j : Nat => [(42, .int .i64 (j : Nat))]) (fun _ => Y2) (fun j => 1 ≤ j ∧ j ≤ R.length) (fun j => R.length - j) 1 ⟨Nat.le_refl _, by omega⟩ ?_ rfl ?_
      · simp only [junkAll, setAll, List.foldl_cons, List.foldl_nil, List.set_cons_succ, List.set_cons_zero, JL, true_or, or_true, and_true, true_and, reduceCtorEq, false_or, or_false, LV.int.injEq, LV.bool.injEq, LV.flt.injEq, LV.sl.injEq, LV.ptr.injEq, eq_self, Int.natCast_add, Int.natCast_one, Int.natCast_zero, Int.ofNat_zero]
      intro e ⟨he1, he2⟩ K hK
      simp only [junkAll, setAll, List.foldl_cons, List.foldl_nil, List.set_cons_succ, List.set_cons_zero]
      by_cases her : e < R.length
      · have g1 := incr e (by omega) her
        obtain ⟨g2, g3⟩ := ahead e her
        have he : ((e : Nat) : Int) - 1 = ((e - 1 : Nat) : Int) := by omega
        obtain ⟨x, hx⟩ : ∃ x, ix R e = x := ⟨_, rfl⟩
        rw [hx] at g1 g2
        have g4 : ¬ x ≤ ix R (e - 1) := by omega
        have g5 : (x != x) = false := by simp
        repeat' (first
 | ((with_reducible refine hK _ _ ?_); clear hK K)
 | ((with_reducible refine hK _ ?_); clear hK K; try simp only [])
 | ((first | (with_reducible show AOp _ _ _ _ _ _ _) | (with_reducible show AQOp _ _ _ _ _ _ _)); simp (disch := first | ((with_reducible show liveO _ _ _ = true); first | assumption | (exact liveO_at' b16) | (exact liveO_at' hSY.b12) | (exact liveO_setS (by assumption)) | (exact PtL.live (by assumption)) | (exact PtL.liveA (by assumption) _) | (simp only [go_sem]; done)) | omega | assumption | rfl | (simp only [go_sem]; first | done | omega)) only [go_sem, reduceIte, reduceCtorEq, Nat.reduceAdd, Nat.reduceMul, Nat.reduceSub, Nat.reduceLeDiff, Nat.lt_irrefl, Nat.reduceLT, Nat.reduceEqDiff, Nat.reduceBEq, Int.reduceLE, Int.reduceLT, Int.reduceToNat, w64, eq_self, he, h30.idxm, h30.ldm, h34.idxm, h34.ldm, hx, ← g2, g4, g5])
 | (with_reducible refine AW_seq (fun K hK => ?_))
 | (with_reducible refine AW_region tyOk ?_)
 | ((with_reducible refine AW_quiet (id := 53) tyOk ?_ ?_ ?_); (kernel_rfl); (kernel_rfl))
 | (with_reducible refine AOps_cons (fun K hK => ?_))
 | (with_reducible refine AQOps_cons (fun K hK => ?_))
 | ((with_reducible refine AQOps_nil ?_); try simp only [thenA, blockA, if_true, if_false, reduceIte, Nat.reduceEqDiff, reduceCtorEq])
 | ((with_reducible refine AOps_nil ?_); try simp only [thenA, blockA, if_true, if_false, reduceIte, Nat.reduceEqDiff, reduceCtorEq])
 | (with_reducible refine AW_block ?_)
 | ((first | (with_reducible refine AW_ret ?_) | (with_reducible refine AW_skip ?_) | (with_reducible refine AW_exit ?_)); try simp only [thenA, blockA, if_true, if_false, reduceIte, Nat.reduceEqDiff, reduceCtorEq])
 | ((with_reducible show AW _ _ (.cond _ _ _) _ _ _); refine AW_cond rfl (fun hg => ?_) (fun hg => ?_) <;> first | (exfalso; simp only [reduceCtorEq] at hg; done) | ((try simp only [Bool.not_eq_true', Bool.not_eq_false', decide_eq_true_eq, decide_eq_false_iff_not] at hg); try (exfalso; omega)))
 | ((with_reducible show _ ∧ _); refine And.intro (fun hg => ?_) (fun hg => ?_) <;> (try simp only [Bool.not_eq_true', Bool.not_eq_false'] at hg) <;> simp only [hg] <;> (try simp only [decide_eq_true_eq, decide_eq_false_iff_not] at hg) <;> (try (exfalso; omega)))
 | (clear hK K)
          | fail)
        refine hK _ _ (e + 1) ⟨by omega, by omega⟩ (by omega) ?_ rfl
        simp only [junkAll, setAll, List.foldl_cons, List.foldl_nil, List.set_cons_succ, List.set_cons_zero, JL, true_or, or_true, and_true, true_and, reduceCtorEq, false_or, or_false, LV.int.injEq, LV.bool.injEq, LV.flt.injEq, LV.sl.injEq, LV.ptr.injEq, eq_self, Int.natCast_add, Int.natCast_one, Int.natCast_zero, Int.ofNat_zero]
      · obtain ⟨g2, g3⟩ := ahead 0 zC0
        obtain ⟨x, hx⟩ : ∃ x, ix R 0 = x := ⟨_, rfl⟩
        rw [hx] at g2
        repeat' (first
 | ((with_reducible refine hK _ _ ?_); clear hK K)
 | ((with_reducible refine hK _ ?_); clear hK K; try simp only [])
 | ((first | (with_reducible show AOp _ _ _ _ _ _ _) | (with_reducible show AQOp _ _ _ _ _ _ _)); simp (disch := first | ((with_reducible show liveO _ _ _ = true); first | assumption | (exact liveO_at' b16) | (exact liveO_at' hSY.b12) | (exact liveO_setS (by assumption)) | (exact PtL.live (by assumption)) | (exact PtL.liveA (by assumption) _) | (simp only [go_sem]; done)) | omega | assumption | rfl | (simp only [go_sem]; first | done | omega)) only [go_sem, reduceIte, reduceCtorEq, Nat.reduceAdd, Nat.reduceMul, Nat.reduceSub, Nat.reduceLeDiff, Nat.lt_irrefl, Nat.reduceLT, Nat.reduceEqDiff, Nat.reduceBEq, Int.reduceLE, Int.reduceLT, Int.reduceToNat, w64, eq_self, h30.idxm, h30.ldm, h34.idxm, h34.ldm, hx, ← g2, hge, beq_self_eq_true])
 | (with_reducible refine AW_seq (fun K hK => ?_))
 | (with_reducible refine AW_region tyOk ?_)
 | ((with_reducible refine AW_quiet (id := 56) tyOk ?_ ?_ ?_); (kernel_rfl); (kernel_rfl))
 | (with_reducible refine AOps_cons (fun K hK => ?_))
 | (with_reducible refine AQOps_cons (fun K hK => ?_))
 | ((with_reducible refine AQOps_nil ?_); try simp only [thenA, blockA, if_true, if_false, reduceIte, Nat.reduceEqDiff, reduceCtorEq])
 | ((with_reducible refine AOps_nil ?_); try simp only [thenA, blockA, if_true, if_false, reduceIte, Nat.reduceEqDiff, reduceCtorEq])
 | (with_reducible refine AW_block ?_)
 | ((first | (with_reducible refine AW_ret ?_) | (with_reducible refine AW_skip ?_) | (with_reducible refine AW_exit ?_)); try simp only [thenA, blockA, if_true, if_false, reduceIte, Nat.reduceEqDiff, reduceCtorEq])
 | ((with_reducible show AW _ _ (.cond _ _ _) _ _ _); refine AW_cond rfl (fun hg => ?_) (fun hg => ?_) <;> first | (exfalso; simp only [reduceCtorEq] at hg; done) | ((try simp only [Bool.not_eq_true', Bool.not_eq_false', decide_eq_true_eq, decide_eq_false_iff_not] at hg); try (exfalso; omega)))
 | ((with_reducible show _ ∧ _); refine And.intro (fun hg => ?_) (fun hg => ?_) <;> (try simp only [Bool.not_eq_true', Bool.not_eq_false'] at hg) <;> simp only [hg] <;> (try simp only [decide_eq_true_eq, decide_eq_false_iff_not] at hg) <;> (try (exfalso; omega)))
 | ((first | (with_reducible apply FunH_intro) | (with_reducible apply AQ_intro)); (first | ((with_reducible show FunH _ 14 _ _ _); exact cN2 _ _ h30)))
 | (clear hK K)
          | fail)
        all_goals (first | refine EndA_cut hcl (by first | exact Or.inr rfl | exact Or.inl rfl) (by simp only [Try.results3, resA, aresL, go_sem, reduceIte, reduceCtorEq, Nat.reduceAdd, Nat.reduceMul, Nat.reduceSub, Nat.reduceLeDiff, Nat.lt_irrefl, Nat.reduceLT, Nat.reduceEqDiff, Nat.reduceBEq, Int.reduceLE, Int.reduceLT, Int.reduceToNat, w64, eq_self] <;> rfl) rfl ?_ | refine EndA_same (by first | exact Or.inr rfl | exact Or.inl rfl) (by simp only [Try.results3, resA, aresL, go_sem, reduceIte, reduceCtorEq, Nat.reduceAdd, Nat.reduceMul, Nat.reduceSub, Nat.reduceLeDiff, Nat.lt_irrefl, Nat.reduceLT, Nat.reduceEqDiff, Nat.reduceBEq, Int.reduceLE, Int.reduceLT, Int.reduceToNat, w64, eq_self] <;> rfl) ?_)
        all_goals rfl
end Go.Proofs.Ytpbafacehmjdmaa
