/- The walk of the law FnHalves in the abstract machine. -/
import Derived.Test.YteejnmgjjefbiaaPfa
import Derived.Test.YteejnmgjjefbiaaHb
import Derived.Test.YteejnmgjjefbiaaZh
import Derived.Test.YteejnmgjjefbiaaYls
import Derived.Test.YteejnmgjjefbiaaYdps
import Derived.Test.YteejnmgjjefbiaaNr
namespace Go.Proofs.Yteejnmgjjefbiaa
open Go.RowKit
set_option linter.unusedSimpArgs false
set_option linter.unusedVariables false
set_option maxRecDepth 100000

theorem liveO_of {H : Hp} {id ver el sz : Nat} {ro : Bool} {cs : List LV} (h : H[id]? = some ⟨ver, ro, el, sz, cs⟩) : liveO H id ver = true := by simp [liveO, h]
theorem liveO_ofA {H : Hp} {id ver el sz : Nat} {ro : Bool} {cs : List LV} (h : H[id]? = some ⟨ver, ro, el, sz, cs⟩) (K : Hp) : liveO (H ++ K) id ver = true := liveO_of (at_app h K)
/-- The places of ranks. -/
def xH (k : Nat) : Option Nat := fB ((k : Int) * 2)
theorem xH_ok0 : ((List.range 17).all fun k => finO (xH k) && (k == 16 || fLe .f32 (xH k) (xH (k + 1)))) = true := by decide +kernel
theorem xH_fin {k : Nat} (h : k < 17) : finO (xH k) = true := (Bool.and_eq_true_iff.1 (List.all_eq_true.1 xH_ok0 k (List.mem_range.2 h))).1
theorem xH_le {k : Nat} (h : k + 1 < 17) : fLe .f32 (xH k) (xH (k + 1)) = true := by
  have := (Bool.and_eq_true_iff.1 (List.all_eq_true.1 xH_ok0 k (List.mem_range.2 (by omega)))).2
  rcases Bool.or_eq_true_iff.1 this with h1 | h1
  · have : k = 16 := by simpa using h1
    omega
  · exact h1
theorem fLe_trans {a b c : Option Nat} (h1 : fLe .f32 a b = true) (h2 : fLe .f32 b c = true) : fLe .f32 a c = true := by
  cases a with
  | none => cases h1
  | some a =>
    cases b with
    | none => cases h2
    | some b =>
      cases c with
      | none => cases h2
      | some c =>
        rw [fLe_key, decide_eq_true_eq] at h1 h2 ⊢
        omega
def rkH (X : List (List Nat)) (k : Nat) : Nat := stS (lrF (xH k)) (oW X) (oW X).length
theorem rkH_mono (X : List (List Nat)) {k : Nat} (h : k + 1 < 17) : rkH X k ≤ rkH X (k + 1) :=
  stS_mono _ (fun xs _ x _ hp => fLe_trans hp (xH_le h)) _ (Nat.le_refl _)
theorem rkH_le (X : List (List Nat)) (k : Nat) : rkH X k ≤ wtA X := by
  have := stS_mono (p := lrF (xH k)) (p' := fun _ => true) (oW X) (fun xs _ x _ _ => rfl) _ (Nat.le_refl _)
  rw [stS_cnt] at this; exact this
def bfH (X : List (List Nat)) : Nat → Nat
  | 0 => 0
  | k + 1 => rkH X k
theorem bfH_le (X : List (List Nat)) {k : Nat} (h : k < 17) : bfH X k ≤ rkH X k := by
  cases k with
  | zero => exact Nat.zero_le _
  | succ k => exact rkH_mono X h
def thB (ws : List Nat) (w : Nat) (i : Nat) : Bool := (ws.take i).any fun y => fEq .f32 (some y) (some w)
theorem thB_succ {ws : List Nat} {w i : Nat} (h : i < ws.length) : thB ws w (i + 1) = (thB ws w i || fEq .f32 (some (ix ws i)) (some w)) := by
  unfold thB; rw [take_ix _ _ h, List.any_append]; simp
theorem thB_all {ws : List Nat} {w : Nat} (h : w ∈ ws) : thB ws w ws.length = true := by
  unfold thB; rw [List.take_length, List.any_eq_true]; exact ⟨w, h, fEq_refl _ _⟩
theorem Iv.tot {ws : List Nat} {q m : Nat} {X : List (List Nat)} {s : Int} (h : Iv ws q m X s) (hm : m ≤ 4096) (hq : q ≤ 32) : totL (oW X) ≤ 1048576 := by
  have h1 := h.len hm
  unfold oW
  rw [totL_w]
  have := totW_le (ls := X) fun row hr => by
    obtain ⟨j, hj, e⟩ := List.getElem_of_mem hr
    have h3 := h.row j hj
    rw [ix_eq _ _ hj, e] at h3; omega
  omega

set_option maxHeartbeats 16000000 in
theorem lawHalves (a0v : LV) (a0x : List Int) (a1v : LV) (a1x : List Int) (H : Hp) (ha0x : RdL H a0v (a0x.map (LV.int .u8))) (na0x : a0x.length ≤ 9223372036854775807) (ba0x : ∀ y ∈ a0x, 0 ≤ y ∧ y ≤ 255) (ha1x : RdL H a1v (a1x.map (LV.int .u8))) (na1x : a1x.length ≤ 9223372036854775807) (ba1x : ∀ y ∈ a1x, 0 ≤ y ∧ y ≤ 255) : FunH Try.prog 3 [a0v, a1v] H fun r H' => r = .bool true := by
  have b0 : byB a0x := ba0x
  have b1 : byB a1x := ba1x
  have hLong := long1048576_c a0v a1v a0x a1x H ha0x ha1x
  cases e0 : (decide (1048576 < a0x.length) || decide (1048576 < a1x.length))
  case true =>
    rw [e0] at hLong
    (refine FunH_body tyOk Try.func3 rfl (by kernel_rfl) Try.ntmps3 (fun hcl hbd => ?_); simp only [List.length_cons, List.length_nil, Nat.reduceAdd, Nat.reduceSub, List.replicate, List.cons_append, List.nil_append])
    repeat' (first
 | ((with_reducible refine hK _ _ ?_); clear hK K)
 | ((first | (with_reducible show AOp _ _ _ _ _ _ _)); simp (disch := first | ((with_reducible show liveO _ _ _ = true); first | assumption | (exact liveO_of hbx) | (exact liveO_ofA hbx _) | (exact liveO_setS (by assumption)) | (exact PtL.live (by assumption)) | (exact PtL.liveA (by assumption) _) | (simp only [go_sem]; done)) | omega | assumption | rfl | (simp only [go_sem]; first | done | omega)) only [go_sem, reduceIte, reduceCtorEq, Nat.reduceAdd, Nat.reduceMul, Nat.reduceSub, Nat.reduceLeDiff, Nat.lt_irrefl, Nat.reduceLT, Nat.reduceEqDiff, Nat.reduceBEq, Int.reduceLE, Int.reduceLT, Int.reduceToNat, w64, eq_self, e0])
 | (with_reducible refine AW_seq (fun K hK => ?_))
 | (with_reducible refine AW_region tyOk ?_)
 | (with_reducible refine AOps_cons (fun K hK => ?_))
 | ((with_reducible refine AOps_nil ?_); try simp only [thenA, blockA, if_true, if_false, reduceIte, Nat.reduceEqDiff, reduceCtorEq])
 | (with_reducible refine AW_block ?_)
 | ((first | (with_reducible refine AW_ret ?_) | (with_reducible refine AW_skip ?_) | (with_reducible refine AW_exit ?_)); try simp only [thenA, blockA, if_true, if_false, reduceIte, Nat.reduceEqDiff, reduceCtorEq])
 | ((with_reducible show AW _ _ (.cond _ _ _) _ _ _); refine AW_cond rfl (fun hg => ?_) (fun hg => ?_) <;> first | (exfalso; simp only [reduceCtorEq] at hg; done) | ((try simp only [Bool.not_eq_true', Bool.not_eq_false', decide_eq_true_eq, decide_eq_false_iff_not] at hg); try (exfalso; omega)))
 | ((with_reducible show _ ∧ _); refine And.intro (fun hg => ?_) (fun hg => ?_) <;> (try simp only [Bool.not_eq_true', Bool.not_eq_false'] at hg) <;> simp only [hg] <;> (try simp only [decide_eq_true_eq, decide_eq_false_iff_not] at hg) <;> (try (exfalso; omega)))
 | ((with_reducible apply FunH_intro); (first | ((with_reducible show FunH _ 4 _ _ _); exact hLong)))
 | (clear hK K)
      | fail)
    all_goals (first | refine EndA_cut hcl (by first | exact Or.inr rfl | exact Or.inl rfl) (by simp only [Try.results3, resA, aresL, go_sem, reduceIte, reduceCtorEq, Nat.reduceAdd, Nat.reduceMul, Nat.reduceSub, Nat.reduceLeDiff, Nat.lt_irrefl, Nat.reduceLT, Nat.reduceEqDiff, Nat.reduceBEq, Int.reduceLE, Int.reduceLT, Int.reduceToNat, w64, eq_self] <;> rfl) rfl ?_ | refine EndA_same (by first | exact Or.inr rfl | exact Or.inl rfl) (by simp only [Try.results3, resA, aresL, go_sem, reduceIte, reduceCtorEq, Nat.reduceAdd, Nat.reduceMul, Nat.reduceSub, Nat.reduceLeDiff, Nat.lt_irrefl, Nat.reduceLT, Nat.reduceEqDiff, Nat.reduceBEq, Int.reduceLE, Int.reduceLT, Int.reduceToNat, w64, eq_self] <;> rfl) ?_)
    all_goals rfl
  rw [e0] at hLong
  obtain ⟨n1, n2⟩ := bAt_in b1 0 (n := 40) (by omega)
  obtain ⟨k1, k2⟩ := bAt_in b1 3 (n := 17) (by omega)
  obtain ⟨m1, m2⟩ := bAt_in b1 1 (n := 6) (by omega)
  obtain ⟨s1, s2⟩ := bAt_in b1 2 (n := 256) (by omega)
  have hA : ∀ L, RdL L a1v (a1x.map (LV.int .u8)) → ∀ (i : Nat) (c : Int), i ≤ 1000 → 0 ≤ c ∧ c ≤ 4294967296 → FunH Try.prog 5 [a1v, .int .i64 (i : Nat), .int .i64 c] L fun r H' => r = .int .i64 (bAt a1x i c) ∧ H' = L := fun L h i c hi hc => b10At_c a1v a1x i c L h b1 na1x hi hc
  have hA0 : ∀ L, RdL L a1v (a1x.map (LV.int .u8)) → FunH Try.prog 5 [a1v, .int .i64 0, .int .i64 40] L fun r H' => r = .int .i64 (bAt a1x 0 40) ∧ H' = L := fun L h => hA L h 0 40 (by omega) (by omega)
  have hA1 : ∀ L, RdL L a1v (a1x.map (LV.int .u8)) → FunH Try.prog 5 [a1v, .int .i64 1, .int .i64 6] L fun r H' => r = .int .i64 (bAt a1x 1 6) ∧ H' = L := fun L h => hA L h 1 6 (by omega) (by omega)
  have hA2 : ∀ L, RdL L a1v (a1x.map (LV.int .u8)) → FunH Try.prog 5 [a1v, .int .i64 2, .int .i64 256] L fun r H' => r = .int .i64 (bAt a1x 2 256) ∧ H' = L := fun L h => hA L h 2 256 (by omega) (by omega)
  have hA3 : ∀ L, RdL L a1v (a1x.map (LV.int .u8)) → FunH Try.prog 5 [a1v, .int .i64 3, .int .i64 17] L fun r H' => r = .int .i64 (bAt a1x 3 17) ∧ H' = L := fun L h => hA L h 3 17 (by omega) (by omega)
  clear hA
  obtain ⟨n, hn⟩ : ∃ n : Nat, 1 + bAt a1x 0 40 = (n : Int) := ⟨(1 + bAt a1x 0 40).toNat, by omega⟩
  obtain ⟨kk, hk⟩ : ∃ k : Nat, bAt a1x 3 17 = (k : Int) := ⟨(bAt a1x 3 17).toNat, by omega⟩
  obtain ⟨q, hq⟩ : ∃ q : Nat, 2 + 2 * bAt a1x 1 6 = ((2 * q : Nat) : Int) := ⟨(1 + bAt a1x 1 6).toNat, by omega⟩
  obtain ⟨s0, hs0⟩ : ∃ s0 : Int, bAt a1x 2 256 = s0 := ⟨_, rfl⟩
  have hq1 : 1 ≤ q ∧ q ≤ 32 := by omega
  have hq6 : q ≤ 6 := by omega
  have hn1 : 1 ≤ n := by omega
  have hn2 : n ≤ 40 := by omega
  have hk1 : kk < 17 := by omega
  have l3 := b10L_fin b0 n
  have hlen := b10L_len a0x n
  have hB := B10List_c a0v a0x n H ha0x b0 na0x (by omega)
  obtain ⟨ws, hws⟩ := words_of l3
  rw [hws] at l3 hlen hB
  rw [List.length_map] at hlen
  rw [List.length_map, hlen] at hB
  have hfin : ∀ y ∈ ws, finO (some y) = true := fun y hy => List.all_eq_true.1 l3 (some y) (List.mem_map_of_mem hy)
  clear hws
  have hshare := ok_shareH hk1
  obtain ⟨sw, hsw, _⟩ := share_some' hshare
  have hwq : opC .quo .f32 (some (FloatKind.f32.nearest (kk : Nat))) (some 1098907648) = some sw := hsw
  rw [hsw] at hshare
  have hs1 : 0 ≤ s0 ∧ s0 ≤ 4294967295 := by omega
  have hIv := hv_Iv (ws := ws) hq1.1 hs1
  rw [hlen] at hIv
  have hwg : ∀ i, i < n → ix (ws.map some) i = some (ix ws i) := fun i hi => by
    rw [ix_eq _ _ (by rw [List.length_map, hlen]; exact hi), List.getElem_map, ix_eq _ _ (by omega)]
  (refine FunH_body tyOk Try.func3 rfl (by kernel_rfl) Try.ntmps3 (fun hcl hbd => ?_); simp only [List.length_cons, List.length_nil, Nat.reduceAdd, Nat.reduceSub, List.replicate, List.cons_append, List.nil_append])
  repeat' (first
 | ((with_reducible refine hK _ _ ?_); clear hK K)
 | ((first | (with_reducible show AOp _ _ _ _ _ _ _)); simp (disch := first | ((with_reducible show liveO _ _ _ = true); first | assumption | (exact liveO_of hbx) | (exact liveO_ofA hbx _) | (exact liveO_setS (by assumption)) | (exact PtL.live (by assumption)) | (exact PtL.liveA (by assumption) _) | (simp only [go_sem]; done)) | omega | assumption | rfl | (simp only [go_sem]; first | done | omega)) only [go_sem, reduceIte, reduceCtorEq, Nat.reduceAdd, Nat.reduceMul, Nat.reduceSub, Nat.reduceLeDiff, Nat.lt_irrefl, Nat.reduceLT, Nat.reduceEqDiff, Nat.reduceBEq, Int.reduceLE, Int.reduceLT, Int.reduceToNat, w64, eq_self, e0, hn, hk, hq, hs0])
 | (with_reducible refine AW_seq (fun K hK => ?_))
 | (with_reducible refine AW_region tyOk ?_)
 | (with_reducible refine AOps_cons (fun K hK => ?_))
 | ((with_reducible refine AOps_nil ?_); try simp only [thenA, blockA, if_true, if_false, reduceIte, Nat.reduceEqDiff, reduceCtorEq])
 | (with_reducible refine AW_block ?_)
 | ((first | (with_reducible refine AW_ret ?_) | (with_reducible refine AW_skip ?_) | (with_reducible refine AW_exit ?_)); try simp only [thenA, blockA, if_true, if_false, reduceIte, Nat.reduceEqDiff, reduceCtorEq])
 | ((with_reducible show AW _ _ (.cond _ _ _) _ _ _); refine AW_cond rfl (fun hg => ?_) (fun hg => ?_) <;> first | (exfalso; simp only [reduceCtorEq] at hg; done) | ((try simp only [Bool.not_eq_true', Bool.not_eq_false', decide_eq_true_eq, decide_eq_false_iff_not] at hg); try (exfalso; omega)))
 | ((with_reducible show _ ∧ _); refine And.intro (fun hg => ?_) (fun hg => ?_) <;> (try simp only [Bool.not_eq_true', Bool.not_eq_false'] at hg) <;> simp only [hg] <;> (try simp only [decide_eq_true_eq, decide_eq_false_iff_not] at hg) <;> (try (exfalso; omega)))
 | ((with_reducible apply FunH_intro); (first | ((with_reducible show FunH _ 5 _ _ _); exact hA0 _ (by first |exact ha1x |exact ha1x.app _)) | ((with_reducible show FunH _ 5 _ _ _); exact hA1 _ (by first |exact ha1x |exact ha1x.app _)) | ((with_reducible show FunH _ 5 _ _ _); exact hA2 _ (by first |exact ha1x |exact ha1x.app _)) | ((with_reducible show FunH _ 4 _ _ _); exact hLong) | ((with_reducible show FunH _ 6 _ _ _); exact hB)))
 | (clear hK K)
    | fail)
  obtain ⟨H0, hH0⟩ : ∃ X, X = H := ⟨_, rfl⟩
  subst hH0
  refine AW_loopV [4, 9, 10, 11, 51, 52, 53, 54, 55, 56, 57, 58, 59, 60, 61, 62, 63, 64, 65, 66] (fun p : Nat × Hp × Nat => [(51, .int .i64 (p.1 : Nat))]) (fun p => p.2.1)
    (fun p => p.1 ≤ n ∧ (∃ K, p.2.1 = (H0 ++ [(⟨0, false, 32, 1, (ws.map some).map (LV.flt .f32)⟩ : AO)]) ++ K) ∧ p.2.1[H0.length + 3]? = some ⟨0, false, 29, 3, [.int .i64 (2 * q : Nat), .int .i64 (hv ws q s0 p.1).2, .sl p.2.2 0 0 (hv ws q s0 p.1).1.length none]⟩ ∧
      ∃ lo hi Q, Lv p.2.1 lo hi p.2.2 Q ∧ hi ≤ p.2.1.length ∧ ¬ (lo ≤ H0.length + 3 ∧ H0.length + 3 < hi) ∧ Q.map Prod.snd = (oW (hv ws q s0 p.1).1).map fun xs => xs.map (LV.flt .f32))
    (fun p => n - p.1) (0, _, H0.length + 2) ⟨Nat.zero_le _, ⟨_, by rw [List.append_assoc]; rfl⟩, (hp_getj _ _ _).trans rfl, H0.length + 1, H0.length + 3, [(H0.length + 1, [])], ⟨(hp_getj _ _ _).trans rfl, ⟨by simp only; omega, by simp only; omega⟩, fun k hk => ?_, fun i k hi hk hik => ?_⟩, ?_, by omega, rfl⟩ ?_ rfl ?_
  · have : k = 0 := by simp only [List.length_cons, List.length_nil] at hk; omega
    subst this
    exact ⟨(hp_getj _ _ _).trans rfl, ⟨Nat.le_refl _, by show H0.length + 1 < _; omega⟩, by show H0.length + 1 ≠ _; simp only; omega⟩
  · simp only [List.length_cons, List.length_nil] at hi hk; omega
  · simp only [List.length_append, List.length_cons, List.length_nil]; omega
  · simp only [junkAll, setAll, List.foldl_cons, List.foldl_nil, List.set_cons_succ, List.set_cons_zero, JL, true_or, or_true, and_true, true_and, reduceCtorEq, false_or, or_false, LV.int.injEq, LV.bool.injEq, LV.flt.injEq, LV.sl.injEq, LV.ptr.injEq, eq_self, Int.natCast_add, Int.natCast_one, Int.natCast_zero, Int.ofNat_zero]
  intro ⟨i, H, A⟩ ⟨hin, hpre, hbx, lo, hi, Q, hLv, hhi, hbo, hQ⟩ K hK
  simp only at hin hpre hbx hLv hhi hbo hQ
  have hI := hIv i hin
  have hlv := hI.lev (by omega) hq1 hfin
  have htt := hI.tot (by omega) hq1.2
  obtain ⟨hQl, -⟩ := totQ_of hQ
  have hxr := hLv.rd
  rw [hQl, oW_len] at hxr
  have hxl := hLv.rdl hQ
  have hlr : RdL H (.sl H0.length 0 0 n none) ((ws.map some).map (LV.flt .f32)) := by
    obtain ⟨KP, e⟩ := hpre
    rw [e]
    exact RdL.app (RdL_h0 rfl (by simp [hlen])) KP
  have hlrl : (ws.map some).length = n := by rw [List.length_map, hlen]
  have hba : RdL H a1v (a1x.map (LV.int .u8)) := by
    obtain ⟨KP, e⟩ := hpre
    rw [e, List.append_assoc]; exact ha1x.app _
  have hbl := lt_ofX hbx
  have hlo := hLv.hi
  have hH0 : (H0 ++ [(⟨0, false, 32, 1, (ws.map some).map (LV.flt .f32)⟩ : AO)]).length = H0.length + 1 := by simp
  have u1 : hgets H (H0.length + 3) 0 0 3 = some [.int .i64 (2 * q : Nat), .int .i64 (hv ws q s0 i).2, .sl A 0 0 (hv ws q s0 i).1.length none] := by simp [hgets, hbx]
  have u2 : ∀ K, hgets (H ++ K) (H0.length + 3) 0 0 3 = some [.int .i64 (2 * q : Nat), .int .i64 (hv ws q s0 i).2, .sl A 0 0 (hv ws q s0 i).1.length none] := fun K => by simp [hgets, at_app hbx K]
  simp only [junkAll, setAll, List.foldl_cons, List.foldl_nil, List.set_cons_succ, List.set_cons_zero]
  by_cases hil : i < n
  · obtain ⟨w, hw⟩ : ∃ w, ix ws i = w := ⟨_, rfl⟩
    have hwx := hwg i hil
    rw [hw] at hwx
    have hwm : w ∈ ws := by rw [← hw]; exact ix_mem ws i (by omega)
    have hI2 := hIv (i + 1) (by omega)
    have hlv2 := hI2.lev (by omega) hq1 hfin
    have hst : plS (2 * q : Nat) (hv ws q s0 i).2 (putL (hv ws q s0 i).1 w) = hv ws q s0 (i + 1) := by rw [← hw]; rfl
    have hpo : plOk (2 * q : Nat) (hv ws q s0 i).2 (oW (hv ws q s0 i).1) (some w) = true := by
      unfold plOk
      rw [hlv, hfin w hwm]
      have e1 : unw (oW (hv ws q s0 i).1) = (hv ws q s0 i).1 := unw_map _
      have e2 : (some w : Option Nat).getD 0 = w := rfl
      rw [e1, e2, hst]
      exact hlv2
    obtain ⟨Q', K', q', g', t'⟩ := plQ_exN (H.length + 1) (2 * q : Nat) true (hv ws q s0 (i + 1))
    have t2 := fun o : AO => t' 7 [.agg [.int .i64 (2 * q : Nat), .int .i64 (hv ws q s0 i).2, .sl A 0 0 (hv ws q s0 i).1.length none], .flt .f32 (some w)] (H ++ [o]) (by simp) (by
      have := iPutLevels_c (2 * q : Nat) (hv ws q s0 i).2 _ _ (oW (hv ws q s0 i).1) (some w) (H ++ [o]) (hxr.app _) (hxl.app _) htt (by omega)
      rw [hpo] at this
      have e1 : unw (oW (hv ws q s0 i).1) = (hv ws q s0 i).1 := unw_map _
      have e2 : (some w : Option Nat).getD 0 = w := rfl
      rw [e1, e2, hst] at this
      exact this)
    have hX : stX true (hv ws q s0 (i + 1)) = oW (hv ws q s0 (i + 1)).1 := rfl
    rw [hX] at q' t2
    simp only [if_true, reduceIte, oW_len, List.append_assoc, List.cons_append, List.nil_append] at t2
    have c1 := fun o => (t2 o).2
    have hpb : ∀ (K : Hp) (x y z : LV), hput (H ++ K) (H0.length + 3) 0 0 [x, y, z] = some ((H ++ K).set (H0.length + 3) ⟨0, false, 29, 3, [x, y, z]⟩) := fun K x y z => hputA_at (at_app hbx K) (by simp)
    repeat' (first
 | ((with_reducible refine hK _ _ ?_); clear hK K)
 | ((with_reducible refine hK _ ?_); clear hK K; try simp only [])
 | ((with_reducible refine hK _ _ ?_ ?_); (first | exact Or.inl rfl | exact Or.inr (fun _ => by (first | exact ⟨_, rfl⟩ | exact ⟨_, by rw [List.append_assoc]; rfl⟩ | exact ⟨_, by simp only [List.append_assoc, List.cons_append, List.nil_append]; rfl⟩ | exact ⟨_, by rw [hp_setj, List.append_assoc]; rfl⟩ | exact ⟨_, hp_setj _ _ _ _⟩ | exact ⟨[], (List.append_nil _).symm⟩))); clear hK K)
 | ((first | (with_reducible show AOp _ _ _ _ _ _ _) | (with_reducible show AQOp _ _ _ _ _ _ _)); simp (disch := first | ((with_reducible show liveO _ _ _ = true); first | assumption | (exact liveO_of hbx) | (exact liveO_ofA hbx _) | (exact liveO_setS (by assumption)) | (exact PtL.live (by assumption)) | (exact PtL.liveA (by assumption) _) | (simp only [go_sem]; done)) | omega | assumption | rfl | (simp only [go_sem]; first | done | omega)) only [go_sem, reduceIte, reduceCtorEq, Nat.reduceAdd, Nat.reduceMul, Nat.reduceSub, Nat.reduceLeDiff, Nat.lt_irrefl, Nat.reduceLT, Nat.reduceEqDiff, Nat.reduceBEq, Int.reduceLE, Int.reduceLT, Int.reduceToNat, w64, eq_self, u1, u2, hlr.idxm, hlr.ldm, hlr.idxmA, hlr.ldmA, hlrl, hwx, hpb])
 | (with_reducible refine AW_seq (fun K hK => ?_))
 | (with_reducible refine AW_region tyOk ?_)
 | ((with_reducible apply AW_treeV (id := 10) tyOk 12 [(9, H.length)] [(29, 3)] [10, 11]); (kernel_rfl); (exact rfl); simp only [List.map_cons, List.map_nil, List.append_assoc, List.cons_append, List.nil_append])
 | ((with_reducible refine AAnyR_leaf (by decide +kernel) ?_); (with_reducible exact Wk.refl))
 | ((with_reducible refine AAnyR_quiet 0 rfl rfl ?_ (by decide +kernel) (by decide +kernel) (by decide +kernel) (by decide +kernel) (by (first | exact ⟨_, rfl⟩ | exact ⟨_, by rw [List.append_assoc]; rfl⟩ | exact ⟨_, by simp only [List.append_assoc, List.cons_append, List.nil_append]; rfl⟩ | exact ⟨_, by rw [hp_setj, List.append_assoc]; rfl⟩ | exact ⟨_, hp_setj _ _ _ _⟩ | exact ⟨[], (List.append_nil _).symm⟩)) (fun K hK => ?_)); (exact rfl))
 | ((with_reducible refine AAnyR_quiet 1 rfl rfl ?_ (by decide +kernel) (by decide +kernel) (by decide +kernel) (by decide +kernel) (by (first | exact ⟨_, rfl⟩ | exact ⟨_, by rw [List.append_assoc]; rfl⟩ | exact ⟨_, by simp only [List.append_assoc, List.cons_append, List.nil_append]; rfl⟩ | exact ⟨_, by rw [hp_setj, List.append_assoc]; rfl⟩ | exact ⟨_, hp_setj _ _ _ _⟩ | exact ⟨[], (List.append_nil _).symm⟩)) (fun K hK => ?_)); (exact rfl))
 | ((with_reducible refine AAnyR_quiet 2 rfl rfl ?_ (by decide +kernel) (by decide +kernel) (by decide +kernel) (by decide +kernel) (by (first | exact ⟨_, rfl⟩ | exact ⟨_, by rw [List.append_assoc]; rfl⟩ | exact ⟨_, by simp only [List.append_assoc, List.cons_append, List.nil_append]; rfl⟩ | exact ⟨_, by rw [hp_setj, List.append_assoc]; rfl⟩ | exact ⟨_, hp_setj _ _ _ _⟩ | exact ⟨[], (List.append_nil _).symm⟩)) (fun K hK => ?_)); (exact rfl))
 | ((with_reducible refine AAnyR_quiet 3 rfl rfl ?_ (by decide +kernel) (by decide +kernel) (by decide +kernel) (by decide +kernel) (by (first | exact ⟨_, rfl⟩ | exact ⟨_, by rw [List.append_assoc]; rfl⟩ | exact ⟨_, by simp only [List.append_assoc, List.cons_append, List.nil_append]; rfl⟩ | exact ⟨_, by rw [hp_setj, List.append_assoc]; rfl⟩ | exact ⟨_, hp_setj _ _ _ _⟩ | exact ⟨[], (List.append_nil _).symm⟩)) (fun K hK => ?_)); (exact rfl))
 | ((with_reducible refine AAnyR_quiet 4 rfl rfl ?_ (by decide +kernel) (by decide +kernel) (by decide +kernel) (by decide +kernel) (by (first | exact ⟨_, rfl⟩ | exact ⟨_, by rw [List.append_assoc]; rfl⟩ | exact ⟨_, by simp only [List.append_assoc, List.cons_append, List.nil_append]; rfl⟩ | exact ⟨_, by rw [hp_setj, List.append_assoc]; rfl⟩ | exact ⟨_, hp_setj _ _ _ _⟩ | exact ⟨[], (List.append_nil _).symm⟩)) (fun K hK => ?_)); (exact rfl))
 | ((with_reducible refine AAnyR_quiet 6 rfl rfl ?_ (by decide +kernel) (by decide +kernel) (by decide +kernel) (by decide +kernel) (by (first | exact ⟨_, rfl⟩ | exact ⟨_, by rw [List.append_assoc]; rfl⟩ | exact ⟨_, by simp only [List.append_assoc, List.cons_append, List.nil_append]; rfl⟩ | exact ⟨_, by rw [hp_setj, List.append_assoc]; rfl⟩ | exact ⟨_, hp_setj _ _ _ _⟩ | exact ⟨[], (List.append_nil _).symm⟩)) (fun K hK => ?_)); (exact rfl))
 | ((with_reducible refine AAnyR_quiet 7 rfl rfl ?_ (by decide +kernel) (by decide +kernel) (by decide +kernel) (by decide +kernel) (by (first | exact ⟨_, rfl⟩ | exact ⟨_, by rw [List.append_assoc]; rfl⟩ | exact ⟨_, by simp only [List.append_assoc, List.cons_append, List.nil_append]; rfl⟩ | exact ⟨_, by rw [hp_setj, List.append_assoc]; rfl⟩ | exact ⟨_, hp_setj _ _ _ _⟩ | exact ⟨[], (List.append_nil _).symm⟩)) (fun K hK => ?_)); (exact rfl))
 | (with_reducible refine AAnyR_step 5 [9] (by decide +kernel) ?_)
 | (with_reducible refine AAnyR_step 8 [9] (by decide +kernel) ?_)
 | (with_reducible refine AAnyR_step 8 [10] (by decide +kernel) ?_)
 | (with_reducible refine AAnyR_step 5 [] (by decide +kernel) ?_)
 | (with_reducible refine AAnyR_step 8 [] (by decide +kernel) ?_)
 | (with_reducible refine AAnyR_step 9 [] (by decide +kernel) ?_)
 | (with_reducible refine AAnyR_step 10 [] (by decide +kernel) ?_)
 | (with_reducible refine AAnyR_step 11 [] (by decide +kernel) ?_)
 | ((with_reducible refine AAllR_res (i := 9) (H.length) 10 ?_ rfl ?_ (fun K hK => ?_) ?_); (exact rfl); (exact rfl))
 | ((with_reducible show RK _ _ _ _ _ _); (try simp only [List.append_assoc, List.cons_append, List.nil_append, hp_setj, List.set_cons_succ, List.set_cons_zero]); refine RK_intro _ (by first | exact List.append_assoc _ _ _ | rfl) (by first | exact (hp_getj _ _ _).trans rfl | exact (hp_get0 _ _).trans rfl) rfl rfl (by intro c hc; simp only [List.mem_cons, List.not_mem_nil, or_false] at hc; (try (rcases hc with rfl | rfl | rfl | rfl | rfl)) <;> first | exact trivial | (subst hc; exact trivial) | (cases hc; done)) (by first | exact ⟨_, _, rfl, by simp, Or.inl rfl⟩ | exact ⟨_, _, rfl, by simp, Or.inr ⟨_, rfl⟩⟩) ?_; simp only [hp_setj, hp_set0, List.set_cons_succ, List.set_cons_zero, List.getD_cons_succ, List.getD_cons_zero, reloc]; refine ⟨Or.inr (fun _ => by (first | exact ⟨_, rfl⟩ | exact ⟨_, by rw [List.append_assoc]; rfl⟩ | exact ⟨_, by simp only [List.append_assoc, List.cons_append, List.nil_append]; rfl⟩ | exact ⟨_, by rw [hp_setj, List.append_assoc]; rfl⟩ | exact ⟨_, hp_setj _ _ _ _⟩ | exact ⟨[], (List.append_nil _).symm⟩)), ?_⟩)
 | ((with_reducible refine AAllR_cons ?_ rfl (fun K hK => ?_) ?_); (exact rfl))
 | (with_reducible exact AAllR_nil)
 | ((with_reducible show thenA _ _ _ _ _); simp only [thenA, blockA, if_true, if_false, reduceIte])
 | ((with_reducible show blockA _ _ _ _ _); simp only [thenA, blockA, if_true, if_false, reduceIte, Nat.reduceEqDiff, reduceCtorEq])
 | (with_reducible refine AOps_cons (fun K hK => ?_))
 | (with_reducible refine AQOps_cons (fun K hK => ?_))
 | ((with_reducible refine AQOps_nil ?_); try simp only [thenA, blockA, if_true, if_false, reduceIte, Nat.reduceEqDiff, reduceCtorEq])
 | ((with_reducible refine AOps_nil ?_); try simp only [thenA, blockA, if_true, if_false, reduceIte, Nat.reduceEqDiff, reduceCtorEq])
 | (with_reducible refine AW_block ?_)
 | ((first | (with_reducible refine AW_ret ?_) | (with_reducible refine AW_skip ?_) | (with_reducible refine AW_exit ?_)); try simp only [thenA, blockA, if_true, if_false, reduceIte, Nat.reduceEqDiff, reduceCtorEq])
 | ((with_reducible show AW _ _ (.cond _ _ _) _ _ _); refine AW_cond rfl (fun hg => ?_) (fun hg => ?_) <;> first | (exfalso; simp only [reduceCtorEq] at hg; done) | ((try simp only [Bool.not_eq_true', Bool.not_eq_false', decide_eq_true_eq, decide_eq_false_iff_not] at hg); try (exfalso; omega)))
 | ((with_reducible show _ ∧ _); refine And.intro (fun hg => ?_) (fun hg => ?_) <;> (try simp only [Bool.not_eq_true', Bool.not_eq_false'] at hg) <;> simp only [hg] <;> (try simp only [decide_eq_true_eq, decide_eq_false_iff_not] at hg) <;> (try (exfalso; omega)))
 | ((first | (with_reducible apply FunH_intro) | (with_reducible apply AQ_intro)); (first | ((with_reducible show FunH _ 7 _ _ _); exact c1 _)))
 | (clear hK K)
      | fail)
    have l2 := (t2 ⟨1, false, 29, 3, [.int .i64 (2 * q : Nat), .int .i64 (hv ws q s0 (i + 1)).2, .sl (H.length + 1) 0 0 (hv ws q s0 (i + 1)).1.length none]⟩).1
    have l3 := l2.setO (i := H0.length + 3) ⟨0, false, 29, 3, [.int .i64 (2 * q : Nat), .int .i64 (hv ws q s0 (i + 1)).2, .sl (H.length + 1) 0 0 (hv ws q s0 (i + 1)).1.length none]⟩ (by omega)
    refine hK _ _ (i + 1, _, H.length + 1) ⟨by simp only; omega, ?_, ?_, _, _, Q', l3, ?_, ?_, q'⟩ (by simp only; omega) ?_ rfl
    · obtain ⟨KP, e⟩ := hpre
      exact pre_set ⟨KP ++ _, by rw [← List.append_assoc, ← e]⟩ (by omega) _
    · rw [List.getElem?_set_self (by rw [List.length_append]; omega)]
    · rw [List.length_set]; exact Nat.le_refl _
    · omega
    · simp only [junkAll, setAll, List.foldl_cons, List.foldl_nil, List.set_cons_succ, List.set_cons_zero, JL, true_or, or_true, and_true, true_and, reduceCtorEq, false_or, or_false, LV.int.injEq, LV.bool.injEq, LV.flt.injEq, LV.sl.injEq, LV.ptr.injEq, eq_self, Int.natCast_add, Int.natCast_one, Int.natCast_zero, Int.ofNat_zero]
  · have hie : n = i := by omega
    subst hie
    obtain ⟨X, s, hXs⟩ : ∃ X s, hv ws q s0 n = (X, s) := ⟨_, _, rfl⟩
    simp only [hXs] at hI hlv htt hQl hxr hxl hbx hQ u1 u2
    have hw1 := hI.wt
    have hcnt : cntB (2 * q : Nat) s (oW X) = true := by
      unfold cntB; rw [hlv, stS_cnt, hw1]; simp; omega
    have c2 := iLevelsCount_c (2 * q : Nat) s _ _ (oW X) H hxr hxl htt
    rw [hcnt, stS_cnt, hw1] at c2
    simp only [if_true, reduceIte] at c2
    obtain ⟨w0, hw0, hwm⟩ := hI.quan hn1 sw
    have hlc : lqC (oW X) = (n : Int) := by unfold lqC; rw [stS_cnt, hw1]
    have hlq : lqB (2 * q : Nat) s (oW X) (some sw) = true := by
      unfold lqB; rw [hcnt, hshare, hlc]; simp; omega
    have c3 := iLevelsQuantile_c (2 * q : Nat) s _ _ (oW X) (some sw) H hxr hxl htt
    have hlV : lqV (2 * q : Nat) s (oW X) (some sw) = some w0 := by unfold lqV; rw [hlq, hw0]; rfl
    have hlK : lqK (2 * q : Nat) s (oW X) (some sw) = true := by unfold lqK; rw [hlq, hw0]; rfl
    rw [hlV, hlK] at c3
    -- joined with itself
    have hI2 := hI.dbl hq1.1
    have hlv2 := hI2.lev (by omega) hq1 hfin
    have htt2 := hI2.tot (by omega) hq1.2
    have hw2 := hI2.wt
    have c4' := iMergeLevels_c (2 * q : Nat) s (2 * q : Nat) s _ _ _ _ (oW X) (oW X) H hxr hxl htt hxr hxl htt (by omega)
    have e1 : unw (oW X) = X := unw_map _
    have hmo : mlOk (2 * q : Nat) s (2 * q : Nat) s (oW X) (oW X) = true := by
      unfold mlOk
      rw [hlv, e1, oW_len, beq_self_eq_true]
      exact hlv2
    rw [hmo, e1, oW_len] at c4'
    obtain ⟨R, hR⟩ : ∃ R, plS (2 * q : Nat) s (mgS X X X.length) = R := ⟨_, rfl⟩
    rw [hR] at c4' hlv2 htt2 hw2 hI2
    obtain ⟨Qm, Km, lm, qm, c4⟩ := plQ_ex c4'
    have hXm : stX true R = oW R.1 := rfl
    rw [hXm] at qm c4
    simp only [if_true, reduceIte, oW_len] at c4
    obtain ⟨H2, hH2⟩ : ∃ H2, H ++ Km = H2 := ⟨_, rfl⟩
    have xr2 := hxr.app Km
    have xl2 := hxl.app Km
    have lr2 := hlr.app Km
    have u3 := u2 Km
    have bx2 := at_app hbx Km
    rw [hH2] at lm c4 xr2 xl2 lr2 u3 bx2
    obtain ⟨MB, hMB⟩ : ∃ MB : AO, (⟨0, false, 29, 3, [.int .i64 (2 * q : Nat), .int .i64 R.2, .sl H.length 0 0 R.1.length none]⟩ : AO) = MB := ⟨_, rfl⟩
    have lm3 := lm.app (Nat.le_refl _) [MB]
    have xr3 := xr2.app [MB]
    have xl3 := xl2.app [MB]
    have lr3 := lr2.app [MB]
    have u4 : hgets (H2 ++ [MB]) (H0.length + 3) 0 0 3 = some [.int .i64 (2 * q : Nat), .int .i64 s, .sl A 0 0 X.length none] := by simp [hgets, at_app bx2 [MB]]
    have mr3 := lm3.rd
    rw [(totQ_of qm).1, oW_len] at mr3
    have c5 := iLevelsCount_c (2 * q : Nat) R.2 _ _ (oW R.1) (H2 ++ [MB]) mr3 (lm3.rdl qm) htt2
    have hcnt2 : cntB (2 * q : Nat) R.2 (oW R.1) = true := by
      unfold cntB; rw [hlv2, stS_cnt, hw2]; simp; omega
    rw [hcnt2, stS_cnt, hw2] at c5
    simp only [if_true, reduceIte] at c5
    have c6 := iValidLevels_c (2 * q : Nat) s _ _ (oW X) (H2 ++ [MB]) xr3 xl3 htt
    have c7 := sValidLevels_c (2 * q : Nat) s _ _ (oW X) (H2 ++ [MB]) xr3 xl3 htt
    rw [hlv] at c6 c7
    have hb2 : (((2 * n : Nat) : Int) != 2 * (n : Int)) = false := by simp
    clear c4' hpre
    subst hMB
    repeat' (first
 | ((with_reducible refine hK _ _ ?_); clear hK K)
 | ((first | (with_reducible show AOp _ _ _ _ _ _ _)); simp (disch := first | ((with_reducible show liveO _ _ _ = true); first | assumption | (exact liveO_of hbx) | (exact liveO_ofA hbx _) | (exact liveO_setS (by assumption)) | (exact PtL.live (by assumption)) | (exact PtL.liveA (by assumption) _) | (simp only [go_sem]; done)) | omega | assumption | rfl | (simp only [go_sem]; first | done | omega)) only [go_sem, reduceIte, reduceCtorEq, Nat.reduceAdd, Nat.reduceMul, Nat.reduceSub, Nat.reduceLeDiff, Nat.lt_irrefl, Nat.reduceLT, Nat.reduceEqDiff, Nat.reduceBEq, Int.reduceLE, Int.reduceLT, Int.reduceToNat, w64, eq_self, u1, u4, hk, hwq, hb2, bne_self_eq_false])
 | (with_reducible refine AW_seq (fun K hK => ?_))
 | (with_reducible refine AW_region tyOk ?_)
 | (with_reducible refine AOps_cons (fun K hK => ?_))
 | ((with_reducible refine AOps_nil ?_); try simp only [thenA, blockA, if_true, if_false, reduceIte, Nat.reduceEqDiff, reduceCtorEq])
 | (with_reducible refine AW_block ?_)
 | ((first | (with_reducible refine AW_ret ?_) | (with_reducible refine AW_skip ?_) | (with_reducible refine AW_exit ?_)); try simp only [thenA, blockA, if_true, if_false, reduceIte, Nat.reduceEqDiff, reduceCtorEq])
 | ((with_reducible show AW _ _ (.cond _ _ _) _ _ _); refine AW_cond rfl (fun hg => ?_) (fun hg => ?_) <;> first | (exfalso; simp only [reduceCtorEq] at hg; done) | ((try simp only [Bool.not_eq_true', Bool.not_eq_false', decide_eq_true_eq, decide_eq_false_iff_not] at hg); try (exfalso; omega)))
 | ((with_reducible show _ ∧ _); refine And.intro (fun hg => ?_) (fun hg => ?_) <;> (try simp only [Bool.not_eq_true', Bool.not_eq_false'] at hg) <;> simp only [hg] <;> (try simp only [decide_eq_true_eq, decide_eq_false_iff_not] at hg) <;> (try (exfalso; omega)))
 | ((with_reducible apply FunH_intro); (first | ((with_reducible show FunH _ 8 _ _ _); exact c2) | ((with_reducible show FunH _ 5 _ _ _); exact hA3 _ hba) | ((with_reducible show FunH _ 9 _ _ _); exact c3) | ((with_reducible show FunH _ 10 _ _ _); exact c4) | ((with_reducible show FunH _ 8 _ _ _); exact c5) | ((with_reducible show FunH _ 11 _ _ _); exact c6) | ((with_reducible show FunH _ 12 _ _ _); exact c7)))
 | (clear hK K)
      | fail)
    all_goals try (exfalso; first | omega | (simp at hg; done))
    obtain ⟨Z, hZ⟩ : ∃ Z, H2 ++ [(⟨0, false, 29, 3, [.int .i64 (2 * q : Nat), .int .i64 R.2, .sl H.length 0 0 R.1.length none]⟩ : AO)] = Z := ⟨_, rfl⟩
    rw [hZ] at xr3 xl3 lr3 u4 ⊢
    refine AW_loopV [21, 22, 130, 131, 132, 133, 134, 135, 136, 137, 138, 139, 140, 141, 142] (fun j : Nat => [(21, .bool (thB ws w0 j)), (130, .int .i64 (j : Nat))]) (fun _ => Z) (fun j => j ≤ n) (fun j => n - j) 0 (Nat.zero_le _) ?_ rfl ?_
    · simp only [junkAll, setAll, List.foldl_cons, List.foldl_nil, List.set_cons_succ, List.set_cons_zero, JL, true_or, or_true, and_true, true_and, reduceCtorEq, false_or, or_false, LV.int.injEq, LV.bool.injEq, LV.flt.injEq, LV.sl.injEq, LV.ptr.injEq, eq_self, Int.natCast_add, Int.natCast_one, Int.natCast_zero, Int.ofNat_zero]; try rfl
    intro j hj K hK
    simp only [junkAll, setAll, List.foldl_cons, List.foldl_nil, List.set_cons_succ, List.set_cons_zero]
    by_cases hjn : j < n
    · have hwj := hwg j hjn
      have hts := thB_succ (ws := ws) (w := w0) (i := j) (by omega)
      cases e : thB ws w0 j
      · rw [e, Bool.false_or] at hts
        repeat' (first
 | ((with_reducible refine hK _ _ ?_); clear hK K)
 | ((first | (with_reducible show AOp _ _ _ _ _ _ _)); simp (disch := first | ((with_reducible show liveO _ _ _ = true); first | assumption | (exact liveO_of hbx) | (exact liveO_ofA hbx _) | (exact liveO_setS (by assumption)) | (exact PtL.live (by assumption)) | (exact PtL.liveA (by assumption) _) | (simp only [go_sem]; done)) | omega | assumption | rfl | (simp only [go_sem]; first | done | omega)) only [go_sem, reduceIte, reduceCtorEq, Nat.reduceAdd, Nat.reduceMul, Nat.reduceSub, Nat.reduceLeDiff, Nat.lt_irrefl, Nat.reduceLT, Nat.reduceEqDiff, Nat.reduceBEq, Int.reduceLE, Int.reduceLT, Int.reduceToNat, w64, eq_self, lr3.idxm, lr3.ldm, hlrl, hwj, e])
 | (with_reducible refine AW_seq (fun K hK => ?_))
 | (with_reducible refine AW_region tyOk ?_)
 | (with_reducible refine AOps_cons (fun K hK => ?_))
 | ((with_reducible refine AOps_nil ?_); try simp only [thenA, blockA, if_true, if_false, reduceIte, Nat.reduceEqDiff, reduceCtorEq])
 | (with_reducible refine AW_block ?_)
 | ((first | (with_reducible refine AW_ret ?_) | (with_reducible refine AW_skip ?_) | (with_reducible refine AW_exit ?_)); try simp only [thenA, blockA, if_true, if_false, reduceIte, Nat.reduceEqDiff, reduceCtorEq])
 | ((with_reducible show AW _ _ (.cond _ _ _) _ _ _); refine AW_cond rfl (fun hg => ?_) (fun hg => ?_) <;> first | (exfalso; simp only [reduceCtorEq] at hg; done) | ((try simp only [Bool.not_eq_true', Bool.not_eq_false', decide_eq_true_eq, decide_eq_false_iff_not] at hg); try (exfalso; omega)))
 | ((with_reducible show _ ∧ _); refine And.intro (fun hg => ?_) (fun hg => ?_) <;> (try simp only [Bool.not_eq_true', Bool.not_eq_false'] at hg) <;> simp only [hg] <;> (try simp only [decide_eq_true_eq, decide_eq_false_iff_not] at hg) <;> (try (exfalso; omega)))
 | (clear hK K)
          | fail)
        refine hK _ _ (j + 1) (by omega) (by omega) ?_ rfl
        simp only [junkAll, setAll, List.foldl_cons, List.foldl_nil, List.set_cons_succ, List.set_cons_zero, JL, true_or, or_true, and_true, true_and, reduceCtorEq, false_or, or_false, LV.int.injEq, LV.bool.injEq, LV.flt.injEq, LV.sl.injEq, LV.ptr.injEq, eq_self, Int.natCast_add, Int.natCast_one, Int.natCast_zero, Int.ofNat_zero]; try rw [hts]
      · rw [e, Bool.true_or] at hts
        repeat' (first
 | ((with_reducible refine hK _ _ ?_); clear hK K)
 | ((first | (with_reducible show AOp _ _ _ _ _ _ _)); simp (disch := first | ((with_reducible show liveO _ _ _ = true); first | assumption | (exact liveO_of hbx) | (exact liveO_ofA hbx _) | (exact liveO_setS (by assumption)) | (exact PtL.live (by assumption)) | (exact PtL.liveA (by assumption) _) | (simp only [go_sem]; done)) | omega | assumption | rfl | (simp only [go_sem]; first | done | omega)) only [go_sem, reduceIte, reduceCtorEq, Nat.reduceAdd, Nat.reduceMul, Nat.reduceSub, Nat.reduceLeDiff, Nat.lt_irrefl, Nat.reduceLT, Nat.reduceEqDiff, Nat.reduceBEq, Int.reduceLE, Int.reduceLT, Int.reduceToNat, w64, eq_self, lr3.idxm, lr3.ldm, hlrl, hwj, e])
 | (with_reducible refine AW_seq (fun K hK => ?_))
 | (with_reducible refine AW_region tyOk ?_)
 | (with_reducible refine AOps_cons (fun K hK => ?_))
 | ((with_reducible refine AOps_nil ?_); try simp only [thenA, blockA, if_true, if_false, reduceIte, Nat.reduceEqDiff, reduceCtorEq])
 | (with_reducible refine AW_block ?_)
 | ((first | (with_reducible refine AW_ret ?_) | (with_reducible refine AW_skip ?_) | (with_reducible refine AW_exit ?_)); try simp only [thenA, blockA, if_true, if_false, reduceIte, Nat.reduceEqDiff, reduceCtorEq])
 | ((with_reducible show AW _ _ (.cond _ _ _) _ _ _); refine AW_cond rfl (fun hg => ?_) (fun hg => ?_) <;> first | (exfalso; simp only [reduceCtorEq] at hg; done) | ((try simp only [Bool.not_eq_true', Bool.not_eq_false', decide_eq_true_eq, decide_eq_false_iff_not] at hg); try (exfalso; omega)))
 | ((with_reducible show _ ∧ _); refine And.intro (fun hg => ?_) (fun hg => ?_) <;> (try simp only [Bool.not_eq_true', Bool.not_eq_false'] at hg) <;> simp only [hg] <;> (try simp only [decide_eq_true_eq, decide_eq_false_iff_not] at hg) <;> (try (exfalso; omega)))
 | (clear hK K)
          | fail)
        refine hK _ _ (j + 1) (by omega) (by omega) ?_ rfl
        simp only [junkAll, setAll, List.foldl_cons, List.foldl_nil, List.set_cons_succ, List.set_cons_zero, JL, true_or, or_true, and_true, true_and, reduceCtorEq, false_or, or_false, LV.int.injEq, LV.bool.injEq, LV.flt.injEq, LV.sl.injEq, LV.ptr.injEq, eq_self, Int.natCast_add, Int.natCast_one, Int.natCast_zero, Int.ofNat_zero]; try rw [hts]
    have hje : n = j := by omega
    subst hje
    have hth : thB ws w0 n = true := by rw [← hlen]; exact thB_all hwm
    rw [hth]
    repeat' (first
 | ((with_reducible refine hK _ _ ?_); clear hK K)
 | ((first | (with_reducible show AOp _ _ _ _ _ _ _)); simp (disch := first | ((with_reducible show liveO _ _ _ = true); first | assumption | (exact liveO_of hbx) | (exact liveO_ofA hbx _) | (exact liveO_setS (by assumption)) | (exact PtL.live (by assumption)) | (exact PtL.liveA (by assumption) _) | (simp only [go_sem]; done)) | omega | assumption | rfl | (simp only [go_sem]; first | done | omega)) only [go_sem, reduceIte, reduceCtorEq, Nat.reduceAdd, Nat.reduceMul, Nat.reduceSub, Nat.reduceLeDiff, Nat.lt_irrefl, Nat.reduceLT, Nat.reduceEqDiff, Nat.reduceBEq, Int.reduceLE, Int.reduceLT, Int.reduceToNat, w64, eq_self, lr3.idxm, lr3.ldm, hlrl])
 | (with_reducible refine AW_seq (fun K hK => ?_))
 | (with_reducible refine AW_region tyOk ?_)
 | (with_reducible refine AOps_cons (fun K hK => ?_))
 | ((with_reducible refine AOps_nil ?_); try simp only [thenA, blockA, if_true, if_false, reduceIte, Nat.reduceEqDiff, reduceCtorEq])
 | (with_reducible refine AW_block ?_)
 | ((first | (with_reducible refine AW_ret ?_) | (with_reducible refine AW_skip ?_) | (with_reducible refine AW_exit ?_)); try simp only [thenA, blockA, if_true, if_false, reduceIte, Nat.reduceEqDiff, reduceCtorEq])
 | ((with_reducible show AW _ _ (.cond _ _ _) _ _ _); refine AW_cond rfl (fun hg => ?_) (fun hg => ?_) <;> first | (exfalso; simp only [reduceCtorEq] at hg; done) | ((try simp only [Bool.not_eq_true', Bool.not_eq_false', decide_eq_true_eq, decide_eq_false_iff_not] at hg); try (exfalso; omega)))
 | ((with_reducible show _ ∧ _); refine And.intro (fun hg => ?_) (fun hg => ?_) <;> (try simp only [Bool.not_eq_true', Bool.not_eq_false'] at hg) <;> simp only [hg] <;> (try simp only [decide_eq_true_eq, decide_eq_false_iff_not] at hg) <;> (try (exfalso; omega)))
 | (clear hK K)
      | fail)
    refine AW_loopV [4, 23, 24, 25, 26, 27, 28, 29, 143, 144, 145, 146, 147, 148, 149, 150, 151, 152, 153, 154, 155, 156, 157, 158, 159, 160, 161, 162, 163, 164, 165, 166, 167, 168, 169, 170, 171, 172, 173, 174, 175, 176, 177, 178, 179, 180, 181, 182, 183, 184, 185] (fun k : Nat => [(23, .int .i64 (bfH X k : Nat)), (24, .int .i64 (k : Nat))]) (fun _ => Z) (fun k => k ≤ 17) (fun k => 17 - k) 0 (Nat.zero_le _) ?_ rfl ?_
    · simp only [junkAll, setAll, List.foldl_cons, List.foldl_nil, List.set_cons_succ, List.set_cons_zero, JL, true_or, or_true, and_true, true_and, reduceCtorEq, false_or, or_false, LV.int.injEq, LV.bool.injEq, LV.flt.injEq, LV.sl.injEq, LV.ptr.injEq, eq_self, Int.natCast_add, Int.natCast_one, Int.natCast_zero, Int.ofNat_zero]; try rfl
    intro k hk17 K hK
    simp only [junkAll, setAll, List.foldl_cons, List.foldl_nil, List.set_cons_succ, List.set_cons_zero]
    by_cases hkk : k < 17
    · have hxf := xH_fin hkk
      obtain ⟨x, hx⟩ : ∃ x, xH k = some x := by
        cases e : xH k with
        | none => rw [e] at hxf; cases hxf
        | some x => exact ⟨x, rfl⟩
      have hxe : opC .quo .f32 (some (FloatKind.f32.nearest ((k : Int) * 2 - 16))) (some 1082130432) = some x := hx
      have hbr := bfH_le X hkk
      have hrn := rkH_le X k
      rw [hw1] at hrn
      have hrk : stS (lrF (some x)) (oW X) (oW X).length = rkH X k := by unfold rkH; rw [hx]
      rw [hx] at hxf
      have hlr2 : lrOk (2 * q : Nat) s (oW X) (some x) = true := by unfold lrOk; rw [hcnt, hxf]; rfl
      have c8 := iLevelsRank_c (2 * q : Nat) s _ _ (oW X) (some x) Z xr3 xl3 htt
      have c9 := sLevelsRank_c (2 * q : Nat) s _ _ (oW X) (some x) Z xr3 xl3 htt
      rw [hlr2, hrk] at c8 c9
      simp only [if_true, reduceIte] at c8 c9
      have hbs : bfH X (k + 1) = rkH X k := rfl
      obtain ⟨rk, hrke⟩ : ∃ rk, rkH X k = rk := ⟨_, rfl⟩
      obtain ⟨bf, hbf⟩ : ∃ bf, bfH X k = bf := ⟨_, rfl⟩
      simp only [hrke, hbf] at c8 c9 hbr hrn hbs ⊢
      repeat' (first
 | ((with_reducible refine hK _ _ ?_); clear hK K)
 | ((first | (with_reducible show AOp _ _ _ _ _ _ _)); simp (disch := first | ((with_reducible show liveO _ _ _ = true); first | assumption | (exact liveO_of hbx) | (exact liveO_ofA hbx _) | (exact liveO_setS (by assumption)) | (exact PtL.live (by assumption)) | (exact PtL.liveA (by assumption) _) | (simp only [go_sem]; done)) | omega | assumption | rfl | (simp only [go_sem]; first | done | omega)) only [go_sem, reduceIte, reduceCtorEq, Nat.reduceAdd, Nat.reduceMul, Nat.reduceSub, Nat.reduceLeDiff, Nat.lt_irrefl, Nat.reduceLT, Nat.reduceEqDiff, Nat.reduceBEq, Int.reduceLE, Int.reduceLT, Int.reduceToNat, w64, eq_self, u4, hxe, bne_self_eq_false])
 | (with_reducible refine AW_seq (fun K hK => ?_))
 | (with_reducible refine AW_region tyOk ?_)
 | (with_reducible refine AOps_cons (fun K hK => ?_))
 | ((with_reducible refine AOps_nil ?_); try simp only [thenA, blockA, if_true, if_false, reduceIte, Nat.reduceEqDiff, reduceCtorEq])
 | (with_reducible refine AW_block ?_)
 | ((first | (with_reducible refine AW_ret ?_) | (with_reducible refine AW_skip ?_) | (with_reducible refine AW_exit ?_)); try simp only [thenA, blockA, if_true, if_false, reduceIte, Nat.reduceEqDiff, reduceCtorEq])
 | ((with_reducible show AW _ _ (.cond _ _ _) _ _ _); refine AW_cond rfl (fun hg => ?_) (fun hg => ?_) <;> first | (exfalso; simp only [reduceCtorEq] at hg; done) | ((try simp only [Bool.not_eq_true', Bool.not_eq_false', decide_eq_true_eq, decide_eq_false_iff_not] at hg); try (exfalso; omega)))
 | ((with_reducible show _ ∧ _); refine And.intro (fun hg => ?_) (fun hg => ?_) <;> (try simp only [Bool.not_eq_true', Bool.not_eq_false'] at hg) <;> simp only [hg] <;> (try simp only [decide_eq_true_eq, decide_eq_false_iff_not] at hg) <;> (try (exfalso; omega)))
 | ((with_reducible apply FunH_intro); (first | ((with_reducible show FunH _ 13 _ _ _); exact c8) | ((with_reducible show FunH _ 14 _ _ _); exact c9)))
 | (clear hK K)
        | fail)
      all_goals try (exfalso; first | omega | (simp at hg; done))
      refine hK _ _ (k + 1) (by omega) (by omega) ?_ rfl
      simp only [junkAll, setAll, List.foldl_cons, List.foldl_nil, List.set_cons_succ, List.set_cons_zero, JL, true_or, or_true, and_true, true_and, reduceCtorEq, false_or, or_false, LV.int.injEq, LV.bool.injEq, LV.flt.injEq, LV.sl.injEq, LV.ptr.injEq, eq_self, Int.natCast_add, Int.natCast_one, Int.natCast_zero, Int.ofNat_zero]; try rw [hbs]
    · have hke : k = 17 := by omega
      subst hke
      have hb17 : bfH X 17 ≤ n := by
        have := rkH_le X 16
        rw [hw1] at this; exact this
      obtain ⟨bf, hbf⟩ : ∃ bf, bfH X 17 = bf := ⟨_, rfl⟩
      rw [hbf] at hb17 ⊢
      repeat' (first
 | ((with_reducible refine hK _ _ ?_); clear hK K)
 | ((first | (with_reducible show AOp _ _ _ _ _ _ _)); simp (disch := first | ((with_reducible show liveO _ _ _ = true); first | assumption | (exact liveO_of hbx) | (exact liveO_ofA hbx _) | (exact liveO_setS (by assumption)) | (exact PtL.live (by assumption)) | (exact PtL.liveA (by assumption) _) | (simp only [go_sem]; done)) | omega | assumption | rfl | (simp only [go_sem]; first | done | omega)) only [go_sem, reduceIte, reduceCtorEq, Nat.reduceAdd, Nat.reduceMul, Nat.reduceSub, Nat.reduceLeDiff, Nat.lt_irrefl, Nat.reduceLT, Nat.reduceEqDiff, Nat.reduceBEq, Int.reduceLE, Int.reduceLT, Int.reduceToNat, w64, eq_self, u4])
 | (with_reducible refine AW_seq (fun K hK => ?_))
 | (with_reducible refine AW_region tyOk ?_)
 | (with_reducible refine AOps_cons (fun K hK => ?_))
 | ((with_reducible refine AOps_nil ?_); try simp only [thenA, blockA, if_true, if_false, reduceIte, Nat.reduceEqDiff, reduceCtorEq])
 | (with_reducible refine AW_block ?_)
 | ((first | (with_reducible refine AW_ret ?_) | (with_reducible refine AW_skip ?_) | (with_reducible refine AW_exit ?_)); try simp only [thenA, blockA, if_true, if_false, reduceIte, Nat.reduceEqDiff, reduceCtorEq])
 | ((with_reducible show AW _ _ (.cond _ _ _) _ _ _); refine AW_cond rfl (fun hg => ?_) (fun hg => ?_) <;> first | (exfalso; simp only [reduceCtorEq] at hg; done) | ((try simp only [Bool.not_eq_true', Bool.not_eq_false', decide_eq_true_eq, decide_eq_false_iff_not] at hg); try (exfalso; omega)))
 | ((with_reducible show _ ∧ _); refine And.intro (fun hg => ?_) (fun hg => ?_) <;> (try simp only [Bool.not_eq_true', Bool.not_eq_false'] at hg) <;> simp only [hg] <;> (try simp only [decide_eq_true_eq, decide_eq_false_iff_not] at hg) <;> (try (exfalso; omega)))
 | (clear hK K)
        | fail)
      all_goals (first | refine EndA_cut hcl (by first | exact Or.inr rfl | exact Or.inl rfl) (by simp only [Try.results3, resA, aresL, go_sem, reduceIte, reduceCtorEq, Nat.reduceAdd, Nat.reduceMul, Nat.reduceSub, Nat.reduceLeDiff, Nat.lt_irrefl, Nat.reduceLT, Nat.reduceEqDiff, Nat.reduceBEq, Int.reduceLE, Int.reduceLT, Int.reduceToNat, w64, eq_self] <;> rfl) rfl ?_ | refine EndA_same (by first | exact Or.inr rfl | exact Or.inl rfl) (by simp only [Try.results3, resA, aresL, go_sem, reduceIte, reduceCtorEq, Nat.reduceAdd, Nat.reduceMul, Nat.reduceSub, Nat.reduceLeDiff, Nat.lt_irrefl, Nat.reduceLT, Nat.reduceEqDiff, Nat.reduceBEq, Int.reduceLE, Int.reduceLT, Int.reduceToNat, w64, eq_self] <;> rfl) ?_)
      all_goals trace_state
      all_goals first | rfl | (simp; omega)
end Go.Proofs.Yteejnmgjjefbiaa
