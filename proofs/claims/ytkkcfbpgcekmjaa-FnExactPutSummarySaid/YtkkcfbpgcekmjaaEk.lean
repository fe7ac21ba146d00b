/- A summary squeezed if it is too long, and given if it is valid, in the abstract machine. -/
import Derived.Test.YtkkcfbpgcekmjaaEj
import Derived.Test.YtkkcfbpgcekmjaaEi
namespace Go.Proofs.Ytkkcfbpgcekmjaa
open Go.RowKit
set_option linter.unusedSimpArgs false
set_option linter.unusedVariables false
set_option maxRecDepth 100000

def stT (n c : Int) (X : List Tp) : List Tp := if 64 < X.length then sqz (roomI n c) X else X
def G3 (H : Hp) (a b c : Nat) (A B C : AO) : Hp := ((H.set a A).set b B).set c C
theorem G3.app {H K : Hp} {a b c : Nat} {A B C : AO} (ha : a < H.length) (hb : b < H.length) (hc : c < H.length) : G3 (H ++ K) a b c A B C = G3 H a b c A B C ++ K := by
  unfold G3
  rw [List.set_append_left _ _ ha, List.set_append_left _ _ (by simpa using hb), List.set_append_left _ _ (by simpa using hc)]
theorem G3.len {H : Hp} {a b c : Nat} {A B C : AO} : (G3 H a b c A B C).length = H.length := by unfold G3; simp
theorem G3.self {H : Hp} {a b c : Nat} {A B C : AO} (ha : H[a]? = some A) (hb : H[b]? = some B) (hc : H[c]? = some C) : G3 H a b c A B C = H := by
  unfold G3; rw [set_self ha, set_self hb, set_self hc]
set_option maxHeartbeats 4000000 in
theorem settled_c (a b c va vb vc : Nat) (n cnt : Int) (X : List Tp) (H : Hp) (la : a < H.length) (lb : b < H.length) (lc : c < H.length) (ab : a ≠ b) (ac : a ≠ c) (bc : b ≠ c)
    (hA : H[a]? = some ⟨va, false, 37, 1, (X.map tv).map (LV.flt .f32)⟩) (hB : H[b]? = some ⟨vb, false, 2, 1, (X.map tg).map (LV.int .i64)⟩) (hC : H[c]? = some ⟨vc, false, 2, 1, (X.map ts).map (LV.int .i64)⟩)
    (hn : 2 ≤ n ∧ n ≤ 1000) (hcnt : 0 ≤ cnt ∧ cnt ≤ 3000000) (hX : X.length ≤ 1000) (hT : TB 3000000 X) :
    FunH Try.prog 158 [.agg [.int .i64 n, .int .i64 cnt, .sl a va 0 X.length none, .sl b vb 0 X.length none, .sl c vc 0 X.length none]] H fun r H' =>
      r = .tup [if sumT n cnt (stT n cnt X) then .agg [.int .i64 n, .int .i64 cnt, .sl a va 0 (stT n cnt X).length none, .sl b vb 0 (stT n cnt X).length none, .sl c vc 0 (stT n cnt X).length none] else .agg [.int .i64 0, .int .i64 0, .nils, .nils, .nils], .bool (sumT n cnt (stT n cnt X))] ∧
      H' = G3 H a b c ⟨va, false, 37, 1, ((stT n cnt X).map tv).map (LV.flt .f32)⟩ ⟨vb, false, 2, 1, ((stT n cnt X).map tg).map (LV.int .i64)⟩ ⟨vc, false, 2, 1, ((stT n cnt X).map ts).map (LV.int .i64)⟩ := by
  by_cases h64 : 64 < X.length
  · have eT : stT n cnt X = sqz (roomI n cnt) X := if_pos h64
    rw [eT]
    have hzl := sqz_len (roomI n cnt) X
    obtain ⟨Y, hY⟩ : ∃ Y, sqz (roomI n cnt) X = Y := ⟨_, rfl⟩
    have h64' : (64 : Int) < (X.length : Nat) := by omega
    have hsq0 := squeeze_c H.length a b c 0 va vb vc n cnt X (H ++ [⟨0, false, 27, 5, [.int .i64 n, .int .i64 cnt, .sl a va 0 X.length none, .sl b vb 0 X.length none, .sl c vc 0 X.length none]⟩, ⟨0, false, 27, 5, [.int .i64 0, .int .i64 0, .nils, .nils, .nils]⟩])
      ⟨by simp; omega, by simp; omega, by simp; omega, by simp, ab, ac, by omega, bc, by omega, by omega⟩ ((hp_get0 _ _).trans rfl) (by rw [List.getElem?_append_left la, hA, List.map_map]; rfl) (by rw [List.getElem?_append_left lb, hB, List.map_map]; rfl) (by rw [List.getElem?_append_left lc, hC, List.map_map]; rfl) hn hcnt hX hT
    rw [hY] at hzl hsq0 ⊢
    obtain ⟨HG, hHG⟩ : ∃ HG, G3 H a b c ⟨va, false, 37, 1, (Y.map tv).map (LV.flt .f32)⟩ ⟨vb, false, 2, 1, (Y.map tg).map (LV.int .i64)⟩ ⟨vc, false, 2, 1, (Y.map ts).map (LV.int .i64)⟩ = HG := ⟨_, rfl⟩
    have hl : HG.length = H.length := by rw [← hHG]; exact G3.len
    have hsq := hsq0.mono (Q' := fun r H' => r = .tup [] ∧ H' = HG ++ [⟨0, false, 27, 5, [.int .i64 n, .int .i64 cnt, .sl a va 0 Y.length none, .sl b vb 0 Y.length none, .sl c vc 0 Y.length none]⟩, ⟨0, false, 27, 5, [.int .i64 0, .int .i64 0, .nils, .nils, .nils]⟩]) fun r H' hh => ⟨hh.1, by
      rw [hh.2]
      have g := G3.app (K := [⟨0, false, 27, 5, [.int .i64 n, .int .i64 cnt, .sl a va 0 X.length none, .sl b vb 0 X.length none, .sl c vc 0 X.length none]⟩, ⟨0, false, 27, 5, [.int .i64 0, .int .i64 0, .nils, .nils, .nils]⟩]) (A := ⟨va, false, 37, 1, (Y.map tv).map (LV.flt .f32)⟩) (B := ⟨vb, false, 2, 1, (Y.map tg).map (LV.int .i64)⟩) (C := ⟨vc, false, 2, 1, (Y.map ts).map (LV.int .i64)⟩) la lb lc
      rw [hHG] at g
      unfold G3 at g
      unfold G4
      simp only [cV, cG, cS]
      rw [show (Y.map fun t => LV.flt .f32 (tv t)) = (Y.map tv).map (LV.flt .f32) by rw [List.map_map]; rfl, show (Y.map fun t => LV.int .i64 (tg t)) = (Y.map tg).map (LV.int .i64) by rw [List.map_map]; rfl, show (Y.map fun t => LV.int .i64 (ts t)) = (Y.map ts).map (LV.int .i64) by rw [List.map_map]; rfl, g, ← hl, hp_set0]; rfl⟩
    have rA : RdL HG (.sl a va 0 Y.length none) ((Y.map tv).map (LV.flt .f32)) := RdL_id (ver := va) (el := 37) (ro := false) (by rw [← hHG]; unfold G3; rw [List.getElem?_set_ne (Ne.symm ac), List.getElem?_set_ne (Ne.symm ab), List.getElem?_set_self la]) (by simp)
    have rB : RdL HG (.sl b vb 0 Y.length none) ((Y.map tg).map (LV.int .i64)) := RdL_id (ver := vb) (el := 2) (ro := false) (by rw [← hHG]; unfold G3; rw [List.getElem?_set_ne (Ne.symm bc), List.getElem?_set_self (by simpa using lb)]) (by simp)
    have rC : RdL HG (.sl c vc 0 Y.length none) ((Y.map ts).map (LV.int .i64)) := RdL_id (ver := vc) (el := 2) (ro := false) (by rw [← hHG]; unfold G3; rw [List.getElem?_set_self (by simpa using lc)]) (by simp)
    have bA : bnd HG.length (.sl a va 0 Y.length none) := by rw [hl]; exact la
    have bB : bnd HG.length (.sl b vb 0 Y.length none) := by rw [hl]; exact lb
    have bC : bnd HG.length (.sl c vc 0 Y.length none) := by rw [hl]; exact lc
    have q1 : (Y.map tv).length ≤ 1048576 := by rw [List.length_map]; omega
    have q2 : (Y.map tg).length ≤ 1048576 := by rw [List.length_map]; omega
    have q3 : (Y.map ts).length ≤ 1048576 := by rw [List.length_map]; omega
    unfold sumT
    have hfin : ∀ hcl : Closed H, Closed HG := fun hcl => by
      rw [← hHG]; unfold G3
      exact ((hcl.setScal a _ (flt_bndX _ _)).setScal b _ (int_bndX _ _)).setScal c _ (int_bndX _ _)
    obtain ⟨ys, hys⟩ : ∃ ys : List LV, [LV.int .i64 n, .int .i64 cnt, .sl a va 0 Y.length none, .sl b vb 0 Y.length none, .sl c vc 0 Y.length none] = ys := ⟨_, rfl⟩
    have hb0 := hp_getj HG
    have gR : ∀ (o1 o2 : AO), (HG ++ [o1, o2])[H.length]? = some o1 ∧ (HG ++ [o1, o2])[H.length + 1]? = some o2 := fun o1 o2 => by rw [← hl]; exact ⟨(hp_get0 _ _).trans rfl, (hp_getj _ _ _).trans rfl⟩
    have sR : ∀ (o1 o2 o3 : AO), (HG ++ [o1, o2]).set (H.length + 1) o3 = HG ++ [o1, o3] := fun o1 o2 o3 => by rw [← hl, hp_setj]; rfl
    have x1 : ∀ (cs : List LV) (o2 : AO) (m : Nat), cs.length = m → hgets (HG ++ [⟨0, false, 27, 5, cs⟩, o2]) H.length 0 0 m = some cs := fun cs o2 m hm => by subst hm; simp [hgets, (gR ⟨0, false, 27, 5, cs⟩ o2).1]
    have x2 : ∀ (cs : List LV) (o1 : AO) (m : Nat), cs.length = m → hgets (HG ++ [o1, ⟨0, false, 27, 5, cs⟩]) (H.length + 1) 0 0 m = some cs := fun cs o1 m hm => by subst hm; simp [hgets, (gR o1 ⟨0, false, 27, 5, cs⟩).2]
    have x3 : ∀ (cs ys : List LV) (o1 : AO), ys.length ≤ cs.length → hput (HG ++ [o1, ⟨0, false, 27, 5, cs⟩]) (H.length + 1) 0 0 ys = some (HG ++ [o1, ⟨0, false, 27, 5, sets cs 0 ys⟩]) := fun cs ys o1 hm => by simp [hput, (gR o1 ⟨0, false, 27, 5, cs⟩).2, sR, hm]
    cases e : summB n cnt (Y.map tv) (Y.map tg) (Y.map ts)
    · (refine FunH_body tyOk Try.func158 rfl (by kernel_rfl) Try.ntmps158 (fun hcl hbd => ?_); simp only [List.length_cons, List.length_nil, Nat.reduceAdd, Nat.reduceSub, List.replicate, List.cons_append, List.nil_append])
      repeat' (first
        | ((with_reducible refine hK _ _ ?_); clear hK K)
        | ((first | (with_reducible show AOp _ _ _ _ _ _ _)); simp (disch := first | ((with_reducible show liveO _ _ _ = true); first | assumption | (exact liveO_setS (by assumption)) | (exact PtL.live (by assumption)) | (exact PtL.liveA (by assumption) _) | (simp only [go_sem]; done)) | omega | assumption | rfl | (simp only [go_sem]; first | done | omega)) only [go_sem, reduceIte, reduceCtorEq, Nat.reduceAdd, Nat.reduceMul, Nat.reduceSub, Nat.reduceLeDiff, Nat.lt_irrefl, Nat.reduceLT, Nat.reduceEqDiff, Nat.reduceBEq, Int.reduceLE, Int.reduceLT, Int.reduceToNat, w64, eq_self, e, h64', x1, x2, x3])
        | (with_reducible refine AW_seq (fun K hK => ?_))
        | (with_reducible refine AW_region tyOk ?_)
        | (with_reducible refine AOps_cons (fun K hK => ?_))
        | ((with_reducible refine AOps_nil ?_); try simp only [thenA, blockA, if_true, if_false, reduceIte, Nat.reduceEqDiff, reduceCtorEq])
        | (with_reducible refine AW_block ?_)
        | ((first | (with_reducible refine AW_ret ?_) | (with_reducible refine AW_skip ?_) | (with_reducible refine AW_exit ?_)); try simp only [thenA, blockA, if_true, if_false, reduceIte, Nat.reduceEqDiff, reduceCtorEq])
        | ((with_reducible show AW _ _ (.cond _ _ _) _ _ _); refine AW_cond rfl (fun hg => ?_) (fun hg => ?_) <;> first | (exfalso; simp only [reduceCtorEq] at hg; done) | ((try simp only [Bool.not_eq_true', Bool.not_eq_false', decide_eq_true_eq, decide_eq_false_iff_not] at hg); try (exfalso; omega)))
        | ((with_reducible show _ ∧ _); refine And.intro (fun hg => ?_) (fun hg => ?_) <;> (try simp only [Bool.not_eq_true', Bool.not_eq_false'] at hg) <;> simp only [hg] <;> (try simp only [decide_eq_true_eq, decide_eq_false_iff_not] at hg) <;> (try (exfalso; omega)))
        | ((with_reducible apply FunH_intro); (first | exact hsq | exact iValidSummary_c _ _ _ _ _ (Y.map tv) (Y.map tg) (Y.map ts) _ (rA.app _) (rB.app _) (rC.app _) q1 q2 q3 | exact iValidSummary_c _ _ _ _ _ _ _ _ _ (by first | assumption | exact RdL.app (by assumption) _ | exact RdL_hj rfl (by simp) | exact RdL_h0 rfl (by simp) | exact RdL_nil | exact RdL_emp) (by first | assumption | exact RdL.app (by assumption) _ | exact RdL_hj rfl (by simp) | exact RdL_h0 rfl (by simp) | exact RdL_nil | exact RdL_emp) (by first | assumption | exact RdL.app (by assumption) _ | exact RdL_hj rfl (by simp) | exact RdL_h0 rfl (by simp) | exact RdL_nil | exact RdL_emp) (by first | assumption | omega | (simp; omega) | (simp; done)) (by first | assumption | omega | (simp; omega) | (simp; done)) (by first | assumption | omega | (simp; omega) | (simp; done)) | exact squeeze_c _ _ _ _ _ _ _ _ _ _ _ _ _ (by first | assumption | exact (hp_getj _ _ _).trans rfl | exact (hp_get0 _ _).trans rfl) (by first | assumption | exact (hp_getj _ _ _).trans rfl | exact (hp_get0 _ _).trans rfl) (by first | assumption | exact (hp_getj _ _ _).trans rfl | exact (hp_get0 _ _).trans rfl) (by first | assumption | exact (hp_getj _ _ _).trans rfl | exact (hp_get0 _ _).trans rfl) (by first | assumption | omega | (simp; omega) | (simp; done)) (by first | assumption | omega | (simp; omega) | (simp; done)) (by first | assumption | omega | (simp; omega) | (simp; done)) _))
        | (clear hK K)
        | fail)
      refine EndA_cutS (H1 := HG) (hfin hcl) (by omega) (by first | exact Or.inr rfl | exact Or.inl rfl) (by simp only [Try.results158, resA, aresL, go_sem, x2] <;> rfl) rfl ⟨rfl, hHG.symm⟩
    · (refine FunH_body tyOk Try.func158 rfl (by kernel_rfl) Try.ntmps158 (fun hcl hbd => ?_); simp only [List.length_cons, List.length_nil, Nat.reduceAdd, Nat.reduceSub, List.replicate, List.cons_append, List.nil_append])
      repeat' (first
        | ((with_reducible refine hK _ _ ?_); clear hK K)
        | ((first | (with_reducible show AOp _ _ _ _ _ _ _)); simp (disch := first | ((with_reducible show liveO _ _ _ = true); first | assumption | (exact liveO_setS (by assumption)) | (exact PtL.live (by assumption)) | (exact PtL.liveA (by assumption) _) | (simp only [go_sem]; done)) | omega | assumption | rfl | (simp only [go_sem]; first | done | omega)) only [go_sem, reduceIte, reduceCtorEq, Nat.reduceAdd, Nat.reduceMul, Nat.reduceSub, Nat.reduceLeDiff, Nat.lt_irrefl, Nat.reduceLT, Nat.reduceEqDiff, Nat.reduceBEq, Int.reduceLE, Int.reduceLT, Int.reduceToNat, w64, eq_self, e, h64', x1, x2, x3])
        | (with_reducible refine AW_seq (fun K hK => ?_))
        | (with_reducible refine AW_region tyOk ?_)
        | (with_reducible refine AOps_cons (fun K hK => ?_))
        | ((with_reducible refine AOps_nil ?_); try simp only [thenA, blockA, if_true, if_false, reduceIte, Nat.reduceEqDiff, reduceCtorEq])
        | (with_reducible refine AW_block ?_)
        | ((first | (with_reducible refine AW_ret ?_) | (with_reducible refine AW_skip ?_) | (with_reducible refine AW_exit ?_)); try simp only [thenA, blockA, if_true, if_false, reduceIte, Nat.reduceEqDiff, reduceCtorEq])
        | ((with_reducible show AW _ _ (.cond _ _ _) _ _ _); refine AW_cond rfl (fun hg => ?_) (fun hg => ?_) <;> first | (exfalso; simp only [reduceCtorEq] at hg; done) | ((try simp only [Bool.not_eq_true', Bool.not_eq_false', decide_eq_true_eq, decide_eq_false_iff_not] at hg); try (exfalso; omega)))
        | ((with_reducible show _ ∧ _); refine And.intro (fun hg => ?_) (fun hg => ?_) <;> (try simp only [Bool.not_eq_true', Bool.not_eq_false'] at hg) <;> simp only [hg] <;> (try simp only [decide_eq_true_eq, decide_eq_false_iff_not] at hg) <;> (try (exfalso; omega)))
        | ((with_reducible apply FunH_intro); (first | exact hsq | exact iValidSummary_c _ _ _ _ _ (Y.map tv) (Y.map tg) (Y.map ts) _ (rA.app _) (rB.app _) (rC.app _) q1 q2 q3 | exact iValidSummary_c _ _ _ _ _ _ _ _ _ (by first | assumption | exact RdL.app (by assumption) _ | exact RdL_hj rfl (by simp) | exact RdL_h0 rfl (by simp) | exact RdL_nil | exact RdL_emp) (by first | assumption | exact RdL.app (by assumption) _ | exact RdL_hj rfl (by simp) | exact RdL_h0 rfl (by simp) | exact RdL_nil | exact RdL_emp) (by first | assumption | exact RdL.app (by assumption) _ | exact RdL_hj rfl (by simp) | exact RdL_h0 rfl (by simp) | exact RdL_nil | exact RdL_emp) (by first | assumption | omega | (simp; omega) | (simp; done)) (by first | assumption | omega | (simp; omega) | (simp; done)) (by first | assumption | omega | (simp; omega) | (simp; done)) | exact squeeze_c _ _ _ _ _ _ _ _ _ _ _ _ _ (by first | assumption | exact (hp_getj _ _ _).trans rfl | exact (hp_get0 _ _).trans rfl) (by first | assumption | exact (hp_getj _ _ _).trans rfl | exact (hp_get0 _ _).trans rfl) (by first | assumption | exact (hp_getj _ _ _).trans rfl | exact (hp_get0 _ _).trans rfl) (by first | assumption | exact (hp_getj _ _ _).trans rfl | exact (hp_get0 _ _).trans rfl) (by first | assumption | omega | (simp; omega) | (simp; done)) (by first | assumption | omega | (simp; omega) | (simp; done)) (by first | assumption | omega | (simp; omega) | (simp; done)) _))
        | (clear hK K)
        | fail)
      refine EndA_cutS (H1 := HG) (hfin hcl) (by omega) (by first | exact Or.inr rfl | exact Or.inl rfl) (by simp only [Try.results158, resA, aresL, go_sem, x2] <;> rfl) (by simp only [renT, renL, List.map_cons, List.map_nil, renB_keep bA, renB_keep bB, renB_keep bC] <;> rfl) ⟨rfl, hHG.symm⟩
  · have eT : stT n cnt X = X := if_neg h64
    rw [eT, G3.self hA hB hC]
    have rA := RdL_id hA (n := X.length) (by simp)
    have rB := RdL_id hB (n := X.length) (by simp)
    have rC := RdL_id hC (n := X.length) (by simp)
    have bA : bnd H.length (.sl a va 0 X.length none) := la
    have bB : bnd H.length (.sl b vb 0 X.length none) := lb
    have bC : bnd H.length (.sl c vc 0 X.length none) := lc
    have q1 : (X.map tv).length ≤ 1048576 := by rw [List.length_map]; omega
    have q2 : (X.map tg).length ≤ 1048576 := by rw [List.length_map]; omega
    have q3 : (X.map ts).length ≤ 1048576 := by rw [List.length_map]; omega
    have h64' : ¬ ((64 : Int) < (X.length : Nat)) := by omega
    unfold sumT
    cases e : summB n cnt (X.map tv) (X.map tg) (X.map ts)
    · (refine FunH_body tyOk Try.func158 rfl (by kernel_rfl) Try.ntmps158 (fun hcl hbd => ?_); simp only [List.length_cons, List.length_nil, Nat.reduceAdd, Nat.reduceSub, List.replicate, List.cons_append, List.nil_append])
      repeat' (first
        | ((with_reducible refine hK _ _ ?_); clear hK K)
        | ((first | (with_reducible show AOp _ _ _ _ _ _ _)); simp (disch := first | ((with_reducible show liveO _ _ _ = true); first | assumption | (exact liveO_setS (by assumption)) | (exact PtL.live (by assumption)) | (exact PtL.liveA (by assumption) _) | (simp only [go_sem]; done)) | omega | assumption | rfl | (simp only [go_sem]; first | done | omega)) only [go_sem, reduceIte, reduceCtorEq, Nat.reduceAdd, Nat.reduceMul, Nat.reduceSub, Nat.reduceLeDiff, Nat.lt_irrefl, Nat.reduceLT, Nat.reduceEqDiff, Nat.reduceBEq, Int.reduceLE, Int.reduceLT, Int.reduceToNat, w64, eq_self, e])
        | (with_reducible refine AW_seq (fun K hK => ?_))
        | (with_reducible refine AW_region tyOk ?_)
        | (with_reducible refine AOps_cons (fun K hK => ?_))
        | ((with_reducible refine AOps_nil ?_); try simp only [thenA, blockA, if_true, if_false, reduceIte, Nat.reduceEqDiff, reduceCtorEq])
        | (with_reducible refine AW_block ?_)
        | ((first | (with_reducible refine AW_ret ?_) | (with_reducible refine AW_skip ?_) | (with_reducible refine AW_exit ?_)); try simp only [thenA, blockA, if_true, if_false, reduceIte, Nat.reduceEqDiff, reduceCtorEq])
        | ((with_reducible show AW _ _ (.cond _ _ _) _ _ _); refine AW_cond rfl (fun hg => ?_) (fun hg => ?_) <;> first | (exfalso; simp only [reduceCtorEq] at hg; done) | ((try simp only [Bool.not_eq_true', Bool.not_eq_false', decide_eq_true_eq, decide_eq_false_iff_not] at hg); try (exfalso; omega)))
        | ((with_reducible show _ ∧ _); refine And.intro (fun hg => ?_) (fun hg => ?_) <;> (try simp only [Bool.not_eq_true', Bool.not_eq_false'] at hg) <;> simp only [hg] <;> (try simp only [decide_eq_true_eq, decide_eq_false_iff_not] at hg) <;> (try (exfalso; omega)))
        | ((with_reducible apply FunH_intro); (first | exact iValidSummary_c _ _ _ _ _ (X.map tv) (X.map tg) (X.map ts) _ (rA.app _) (rB.app _) (rC.app _) q1 q2 q3 | exact iValidSummary_c _ _ _ _ _ _ _ _ _ (by first | assumption | exact RdL.app (by assumption) _ | exact RdL_hj rfl (by simp) | exact RdL_h0 rfl (by simp) | exact RdL_nil | exact RdL_emp) (by first | assumption | exact RdL.app (by assumption) _ | exact RdL_hj rfl (by simp) | exact RdL_h0 rfl (by simp) | exact RdL_nil | exact RdL_emp) (by first | assumption | exact RdL.app (by assumption) _ | exact RdL_hj rfl (by simp) | exact RdL_h0 rfl (by simp) | exact RdL_nil | exact RdL_emp) (by first | assumption | omega | (simp; omega) | (simp; done)) (by first | assumption | omega | (simp; omega) | (simp; done)) (by first | assumption | omega | (simp; omega) | (simp; done)) | exact squeeze_c _ _ _ _ _ _ _ _ _ _ _ _ _ (by first | assumption | exact (hp_getj _ _ _).trans rfl | exact (hp_get0 _ _).trans rfl) (by first | assumption | exact (hp_getj _ _ _).trans rfl | exact (hp_get0 _ _).trans rfl) (by first | assumption | exact (hp_getj _ _ _).trans rfl | exact (hp_get0 _ _).trans rfl) (by first | assumption | exact (hp_getj _ _ _).trans rfl | exact (hp_get0 _ _).trans rfl) (by first | assumption | omega | (simp; omega) | (simp; done)) (by first | assumption | omega | (simp; omega) | (simp; done)) (by first | assumption | omega | (simp; omega) | (simp; done)) _))
        | (clear hK K)
        | fail)
      all_goals (first | refine EndA_cut hcl (by first | exact Or.inr rfl | exact Or.inl rfl) (by simp only [Try.results158, resA, aresL, go_sem, reduceIte, reduceCtorEq, Nat.reduceAdd, Nat.reduceMul, Nat.reduceSub, Nat.reduceLeDiff, Nat.lt_irrefl, Nat.reduceLT, Nat.reduceEqDiff, Nat.reduceBEq, Int.reduceLE, Int.reduceLT, Int.reduceToNat, w64, eq_self] <;> rfl) rfl ?_ | refine EndA_same (by first | exact Or.inr rfl | exact Or.inl rfl) (by simp only [Try.results158, resA, aresL, go_sem, reduceIte, reduceCtorEq, Nat.reduceAdd, Nat.reduceMul, Nat.reduceSub, Nat.reduceLeDiff, Nat.lt_irrefl, Nat.reduceLT, Nat.reduceEqDiff, Nat.reduceBEq, Int.reduceLE, Int.reduceLT, Int.reduceToNat, w64, eq_self] <;> rfl) ?_)
      all_goals exact ⟨rfl, rfl⟩
    · (refine FunH_body tyOk Try.func158 rfl (by kernel_rfl) Try.ntmps158 (fun hcl hbd => ?_); simp only [List.length_cons, List.length_nil, Nat.reduceAdd, Nat.reduceSub, List.replicate, List.cons_append, List.nil_append])
      repeat' (first
        | ((with_reducible refine hK _ _ ?_); clear hK K)
        | ((first | (with_reducible show AOp _ _ _ _ _ _ _)); simp (disch := first | ((with_reducible show liveO _ _ _ = true); first | assumption | (exact liveO_setS (by assumption)) | (exact PtL.live (by assumption)) | (exact PtL.liveA (by assumption) _) | (simp only [go_sem]; done)) | omega | assumption | rfl | (simp only [go_sem]; first | done | omega)) only [go_sem, reduceIte, reduceCtorEq, Nat.reduceAdd, Nat.reduceMul, Nat.reduceSub, Nat.reduceLeDiff, Nat.lt_irrefl, Nat.reduceLT, Nat.reduceEqDiff, Nat.reduceBEq, Int.reduceLE, Int.reduceLT, Int.reduceToNat, w64, eq_self, e])
        | (with_reducible refine AW_seq (fun K hK => ?_))
        | (with_reducible refine AW_region tyOk ?_)
        | (with_reducible refine AOps_cons (fun K hK => ?_))
        | ((with_reducible refine AOps_nil ?_); try simp only [thenA, blockA, if_true, if_false, reduceIte, Nat.reduceEqDiff, reduceCtorEq])
        | (with_reducible refine AW_block ?_)
        | ((first | (with_reducible refine AW_ret ?_) | (with_reducible refine AW_skip ?_) | (with_reducible refine AW_exit ?_)); try simp only [thenA, blockA, if_true, if_false, reduceIte, Nat.reduceEqDiff, reduceCtorEq])
        | ((with_reducible show AW _ _ (.cond _ _ _) _ _ _); refine AW_cond rfl (fun hg => ?_) (fun hg => ?_) <;> first | (exfalso; simp only [reduceCtorEq] at hg; done) | ((try simp only [Bool.not_eq_true', Bool.not_eq_false', decide_eq_true_eq, decide_eq_false_iff_not] at hg); try (exfalso; omega)))
        | ((with_reducible show _ ∧ _); refine And.intro (fun hg => ?_) (fun hg => ?_) <;> (try simp only [Bool.not_eq_true', Bool.not_eq_false'] at hg) <;> simp only [hg] <;> (try simp only [decide_eq_true_eq, decide_eq_false_iff_not] at hg) <;> (try (exfalso; omega)))
        | ((with_reducible apply FunH_intro); (first | exact iValidSummary_c _ _ _ _ _ (X.map tv) (X.map tg) (X.map ts) _ (rA.app _) (rB.app _) (rC.app _) q1 q2 q3 | exact iValidSummary_c _ _ _ _ _ _ _ _ _ (by first | assumption | exact RdL.app (by assumption) _ | exact RdL_hj rfl (by simp) | exact RdL_h0 rfl (by simp) | exact RdL_nil | exact RdL_emp) (by first | assumption | exact RdL.app (by assumption) _ | exact RdL_hj rfl (by simp) | exact RdL_h0 rfl (by simp) | exact RdL_nil | exact RdL_emp) (by first | assumption | exact RdL.app (by assumption) _ | exact RdL_hj rfl (by simp) | exact RdL_h0 rfl (by simp) | exact RdL_nil | exact RdL_emp) (by first | assumption | omega | (simp; omega) | (simp; done)) (by first | assumption | omega | (simp; omega) | (simp; done)) (by first | assumption | omega | (simp; omega) | (simp; done)) | exact squeeze_c _ _ _ _ _ _ _ _ _ _ _ _ _ (by first | assumption | exact (hp_getj _ _ _).trans rfl | exact (hp_get0 _ _).trans rfl) (by first | assumption | exact (hp_getj _ _ _).trans rfl | exact (hp_get0 _ _).trans rfl) (by first | assumption | exact (hp_getj _ _ _).trans rfl | exact (hp_get0 _ _).trans rfl) (by first | assumption | exact (hp_getj _ _ _).trans rfl | exact (hp_get0 _ _).trans rfl) (by first | assumption | omega | (simp; omega) | (simp; done)) (by first | assumption | omega | (simp; omega) | (simp; done)) (by first | assumption | omega | (simp; omega) | (simp; done)) _))
        | (clear hK K)
        | fail)
      all_goals (refine EndA_cut hcl (by first | exact Or.inr rfl | exact Or.inl rfl) (by simp only [Try.results158, resA, aresL, go_sem, reduceIte, reduceCtorEq, Nat.reduceAdd, Nat.reduceMul, Nat.reduceSub, Nat.reduceLeDiff, Nat.lt_irrefl, Nat.reduceLT, Nat.reduceEqDiff, Nat.reduceBEq, Int.reduceLE, Int.reduceLT, Int.reduceToNat, w64, eq_self] <;> rfl) (by simp only [renT, renL, List.map_cons, List.map_nil, renB_keep bA, renB_keep bB, renB_keep bC] <;> rfl) ?_)
      all_goals exact ⟨rfl, rfl⟩
end Go.Proofs.Ytkkcfbpgcekmjaa
