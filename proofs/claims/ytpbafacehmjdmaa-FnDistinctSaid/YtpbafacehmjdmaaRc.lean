/- Zeros put and joined, counts of least lists, what is the same and what is different, in the abstract machine. -/
import Derived.Test.YtpbafacehmjdmaaRb
import Derived.Test.YtpbafacehmjdmaaZa
import Derived.Test.YtpbafacehmjdmaaZu
import Derived.Test.YtpbafacehmjdmaaNu
namespace Go.Proofs.Ytpbafacehmjdmaa
open Go.RowKit
set_option linter.unusedSimpArgs false
set_option linter.unusedVariables false
set_option maxRecDepth 100000

theorem wrap_l33 {l : Int} (h0 : 0 ≤ l) (h1 : l ≤ 32) : IntKind.i64.wrap (l + 1) = l + 1 := w64 _ (by omega) (by omega)
theorem hput_row {el p : Nat} {cs ds : List LV} {x : LV} (h : cs.set p x = ds) (hp : p + 1 ≤ cs.length) : hput [(⟨0, false, el, 1, cs⟩ : AO)] 0 0 p [x] = some [⟨0, false, el, 1, ds⟩] := by
  rw [← h]; simp [hput, sets, hp]
def zvI (k s : Int) : Int := lzI (hashI k (saltI s 1)) + 1
def zaI (k s : Int) (m : Nat) : Nat := (belowI k s m).toNat
def pzL (k s : Int) (cs : List Int) : List Int := cs.set (zaI k s cs.length) (max (ix cs (zaI k s cs.length)) (zvI k s))
theorem zvI_in (k s : Int) : 1 ≤ zvI k s ∧ zvI k s ≤ 33 := by
  obtain ⟨h1, h2⟩ := hashI_b k (saltI s 1)
  have := lzI_in h1 h2
  unfold zvI; omega
theorem zaI_lt (k s : Int) {m : Nat} (h1 : 1 ≤ m) (h2 : m ≤ 256) : zaI k s m < m ∧ belowI k s m = (zaI k s m : Nat) := by
  have := belowI_b k s m (by omega) (by omega)
  unfold zaI; omega
theorem pzL_len (k s : Int) (cs : List Int) : (pzL k s cs).length = cs.length := List.length_set
theorem imax2 (k : IntKind) (a b : Int) : aminmax (fun x y => if y > x then y else x) [.int k a, .int k b] = some (.int k (max a b)) := by
  simp only [aminmax, if_true, Option.some.injEq, LV.int.injEq, true_and]; split <;> omega
theorem zerB_in {s : Int} {cs : List Int} (h : zerB s cs = true) : (0 ≤ s ∧ s ≤ 4294967295) ∧ 16 ≤ cs.length ∧ cs.length ≤ 256 ∧ ∀ x ∈ cs, 0 ≤ x ∧ x ≤ 33 := by
  unfold zerB at h
  simp only [Bool.and_eq_true] at h
  have h1 := pow16_len h.1.2
  exact ⟨(keyB_iff s).1 h.1.1, by omega, by omega, fun x hx => by have := List.all_eq_true.1 h.2 x hx; simpa [inB] using this⟩
set_option maxHeartbeats 4000000 in
theorem iPutZeros_c (s : Int) (y : LV) (cs : List Int) (k : Int) (H : Hp) (h : RdL H y (cs.map (LV.int .i64))) (e1 : zerB s cs = true) (e2 : keyB k = true) :
    FunH Try.prog 7 [.agg [.int .i64 s, y], .int .i64 k] H fun r' H' => r' = .tup [.agg [.int .i64 s, .sl H.length 0 0 cs.length none], .bool true] ∧ H' = H ++ [⟨0, false, 2, 1, (pzL k s cs).map (LV.int .i64)⟩] := by
  obtain ⟨⟨s0, s1⟩, l0, l1, hcs⟩ := zerB_in e1
  obtain ⟨k0, k1⟩ := (keyB_iff k).1 e2
  obtain ⟨z0, z1⟩ := zaI_lt k s (m := cs.length) (by omega) l1
  obtain ⟨v0, v1⟩ := zvI_in k s
  have hH := hashI_b k (saltI s 1)
  have hsb := saltI_b s 1
  obtain ⟨p, hp⟩ : ∃ p, zaI k s cs.length = p := ⟨_, rfl⟩
  rw [hp] at z0 z1
  have hx := hcs _ (ix_mem cs p z0)
  have hz := lzI_in hH.1 hH.2
  obtain ⟨l, hl⟩ : ∃ l, lzI (hashI k (saltI s 1)) = l := ⟨_, rfl⟩
  have hzv : zvI k s = l + 1 := by unfold zvI; rw [hl]
  rw [hl] at hz
  have hset : (cs.map (LV.int .i64)).set p (.int .i64 (max (ix cs p) (zvI k s))) = (pzL k s cs).map (LV.int .i64) := by
    unfold pzL; rw [hp, List.map_set]
  have hget : (cs.map (LV.int .i64))[p]? = some (.int .i64 (ix cs p)) := by rw [List.getElem?_map, ix_get? _ _ z0]; rfl
  have hlm : (cs.map (LV.int .i64)).length = cs.length := List.length_map ..
  have hwz : IntKind.i64.wrap (l + 1) = zvI k s := by rw [hzv]; exact wrap_l33 hz.1 hz.2
  have hclo := fun (K : Hp) => Clone_int64_c y cs (H ++ K) (h.app K) (by omega)
  have hb1 : (1 : Int) ≤ ((cs.length : Nat) : Int) := by clear hz hzv hwz hH hsb hx v0 v1 z1; omega
  have hb2 : ((cs.length : Nat) : Int) ≤ 4294967296 := by clear hz hzv hwz hH hsb hx v0 v1 z1; omega
  have hput2 : hput [(⟨0, false, 2, 1, cs.map (LV.int .i64)⟩ : AO)] 0 0 p [.int .i64 (max (ix cs p) (zvI k s))] = some [⟨0, false, 2, 1, (pzL k s cs).map (LV.int .i64)⟩] := hput_row hset (by omega)
  (refine FunH_body tyOk Try.func7 rfl (by kernel_rfl) Try.ntmps7 (fun hcl hbd => ?_); simp only [List.length_cons, List.length_nil, Nat.reduceAdd, Nat.reduceSub, List.replicate, List.cons_append, List.nil_append])
  repeat' (first
 | ((with_reducible refine hK _ _ ?_); clear hK K)
 | ((first | (with_reducible show AOp _ _ _ _ _ _ _)); simp (disch := first | ((with_reducible show liveO _ _ _ = true); first | assumption | (exact liveO_setS (by assumption)) | (exact PtL.live (by assumption)) | (exact PtL.liveA (by assumption) _) | (simp only [go_sem]; done)) | omega | assumption | rfl | (simp only [go_sem]; first | done | omega)) only [go_sem, reduceIte, reduceCtorEq, Nat.reduceAdd, Nat.reduceMul, Nat.reduceSub, Nat.reduceLeDiff, Nat.lt_irrefl, Nat.reduceLT, Nat.reduceEqDiff, Nat.reduceBEq, Int.reduceLE, Int.reduceLT, Int.reduceToNat, w64, eq_self, h.isCell, e1, e2])
 | ((with_reducible refine AW_seqN [3] ?_ (fun K hK => ?_)); (exact rfl))
 | (with_reducible refine AW_region tyOk ?_)
 | (with_reducible refine AOps_cons (fun K hK => ?_))
 | ((with_reducible refine AOps_nil ?_); try simp only [thenA, blockA, if_true, if_false, reduceIte, Nat.reduceEqDiff, reduceCtorEq])
 | (with_reducible refine AW_block ?_)
 | ((first | (with_reducible refine AW_ret ?_) | (with_reducible refine AW_skip ?_) | (with_reducible refine AW_exit ?_)); try simp only [thenA, blockA, if_true, if_false, reduceIte, Nat.reduceEqDiff, reduceCtorEq])
 | ((with_reducible show AW _ _ (.cond _ _ _) _ _ _); refine AW_cond rfl (fun hg => ?_) (fun hg => ?_) <;> first | (exfalso; simp only [reduceCtorEq] at hg; done) | ((try simp only [Bool.not_eq_true', Bool.not_eq_false', decide_eq_true_eq, decide_eq_false_iff_not] at hg); try (exfalso; omega)))
 | ((with_reducible show _ ∧ _); refine And.intro (fun hg => ?_) (fun hg => ?_) <;> (try simp only [Bool.not_eq_true', Bool.not_eq_false'] at hg) <;> simp only [hg] <;> (try simp only [decide_eq_true_eq, decide_eq_false_iff_not] at hg) <;> (try (exfalso; omega)))
 | ((with_reducible apply FunH_intro); (first | ((with_reducible show FunH _ 10 _ _ _); exact iValidZeros_c s y cs _ (h.app _) (by omega)) | ((with_reducible show FunH _ 20 _ _ _); exact IsKey_c k _)))
 | (clear hK K)
    | fail)
  repeat' (first
 | ((with_reducible refine hK _ _ ?_); clear hK K)
 | ((with_reducible refine hK _ ?_); clear hK K; try simp only [])
 | ((with_reducible refine hK _ _ ?_ ?_); (first | exact Or.inl rfl | exact Or.inr (fun _ => by (first | exact ⟨_, rfl⟩ | exact ⟨_, by rw [List.append_assoc]; rfl⟩ | exact ⟨_, by simp only [List.append_assoc, List.cons_append, List.nil_append]; rfl⟩ | exact ⟨_, by rw [hp_setj, List.append_assoc]; rfl⟩ | exact ⟨_, hp_setj _ _ _ _⟩ | exact ⟨[], (List.append_nil _).symm⟩))); clear hK K)
 | ((first | (with_reducible show AOp _ _ _ _ _ _ _) | (with_reducible show AQOp _ _ _ _ _ _ _)); simp (disch := first | ((with_reducible show liveO _ _ _ = true); first | assumption | (exact liveO_setS (by assumption)) | (exact PtL.live (by assumption)) | (exact PtL.liveA (by assumption) _) | (simp only [go_sem]; done)) | omega | assumption | rfl | (simp only [go_sem]; first | done | omega)) only [go_sem, reduceIte, reduceCtorEq, Nat.reduceAdd, Nat.reduceMul, Nat.reduceSub, Nat.reduceLeDiff, Nat.lt_irrefl, Nat.reduceLT, Nat.reduceEqDiff, Nat.reduceBEq, Int.reduceLE, Int.reduceLT, Int.reduceToNat, w64, eq_self])
 | ((with_reducible refine AW_seqN [4] ?_ (fun K hK => ?_)); (exact rfl))
 | (with_reducible refine AW_region tyOk ?_)
 | ((with_reducible apply AW_treeV (id := 3) tyOk 8 [(6, H.length + 2)] [(28, 2)] [7]); (kernel_rfl); (exact rfl); simp only [List.map_cons, List.map_nil, List.append_assoc, List.cons_append, List.nil_append])
 | ((with_reducible refine AAnyR_leaf (by decide +kernel) ?_); (with_reducible exact Wk.refl))
 | ((with_reducible refine AAnyR_quiet 0 rfl rfl ?_ (by decide +kernel) (by decide +kernel) (by decide +kernel) (by decide +kernel) (by (first | exact ⟨_, rfl⟩ | exact ⟨_, by rw [List.append_assoc]; rfl⟩ | exact ⟨_, by simp only [List.append_assoc, List.cons_append, List.nil_append]; rfl⟩ | exact ⟨_, by rw [hp_setj, List.append_assoc]; rfl⟩ | exact ⟨_, hp_setj _ _ _ _⟩ | exact ⟨[], (List.append_nil _).symm⟩)) (fun K hK => ?_)); (exact rfl))
 | ((with_reducible refine AAnyR_quiet 1 rfl rfl ?_ (by decide +kernel) (by decide +kernel) (by decide +kernel) (by decide +kernel) (by (first | exact ⟨_, rfl⟩ | exact ⟨_, by rw [List.append_assoc]; rfl⟩ | exact ⟨_, by simp only [List.append_assoc, List.cons_append, List.nil_append]; rfl⟩ | exact ⟨_, by rw [hp_setj, List.append_assoc]; rfl⟩ | exact ⟨_, hp_setj _ _ _ _⟩ | exact ⟨[], (List.append_nil _).symm⟩)) (fun K hK => ?_)); (exact rfl))
 | ((with_reducible refine AAnyR_quiet 2 rfl rfl ?_ (by decide +kernel) (by decide +kernel) (by decide +kernel) (by decide +kernel) (by (first | exact ⟨_, rfl⟩ | exact ⟨_, by rw [List.append_assoc]; rfl⟩ | exact ⟨_, by simp only [List.append_assoc, List.cons_append, List.nil_append]; rfl⟩ | exact ⟨_, by rw [hp_setj, List.append_assoc]; rfl⟩ | exact ⟨_, hp_setj _ _ _ _⟩ | exact ⟨[], (List.append_nil _).symm⟩)) (fun K hK => ?_)); (exact rfl))
 | ((with_reducible refine AAnyR_quiet 3 rfl rfl ?_ (by decide +kernel) (by decide +kernel) (by decide +kernel) (by decide +kernel) (by (first | exact ⟨_, rfl⟩ | exact ⟨_, by rw [List.append_assoc]; rfl⟩ | exact ⟨_, by simp only [List.append_assoc, List.cons_append, List.nil_append]; rfl⟩ | exact ⟨_, by rw [hp_setj, List.append_assoc]; rfl⟩ | exact ⟨_, hp_setj _ _ _ _⟩ | exact ⟨[], (List.append_nil _).symm⟩)) (fun K hK => ?_)); (exact rfl))
 | (with_reducible refine AAnyR_step 4 [6] (by decide +kernel) ?_)
 | (with_reducible refine AAnyR_step 5 [6] (by decide +kernel) ?_)
 | (with_reducible refine AAnyR_step 4 [] (by decide +kernel) ?_)
 | (with_reducible refine AAnyR_step 5 [] (by decide +kernel) ?_)
 | (with_reducible refine AAnyR_step 6 [] (by decide +kernel) ?_)
 | (with_reducible refine AAnyR_step 7 [] (by decide +kernel) ?_)
 | ((with_reducible refine AAllR_res (i := 6) (H.length + 2) 6 ?_ rfl ?_ (fun K hK => ?_) ?_); (exact rfl); (exact rfl))
 | ((with_reducible show RK _ _ _ _ _ _); (try simp only [List.append_assoc, List.cons_append, List.nil_append, hp_setj, List.set_cons_succ, List.set_cons_zero]); refine RK_intro _ (by first | exact List.append_assoc _ _ _ | rfl) (by first | exact (hp_getj _ _ _).trans rfl | exact (hp_get0 _ _).trans rfl) rfl rfl (by first | exact (fun c hc => (scal_int _ _ c hc).2) | (intro c hc; simp only [List.mem_cons, List.not_mem_nil, or_false] at hc; (try (rcases hc with rfl | rfl | rfl | rfl | rfl)) <;> first | exact trivial | (subst hc; exact trivial) | (cases hc; done))) (by first | exact ⟨_, _, rfl, by simp, Or.inl rfl⟩ | exact ⟨_, _, rfl, by simp, Or.inr ⟨_, rfl⟩⟩) ?_; simp only [hp_setj, hp_set0, List.set_cons_succ, List.set_cons_zero, List.getD_cons_succ, List.getD_cons_zero, reloc]; refine ⟨Or.inr (fun _ => by (first | exact ⟨_, rfl⟩ | exact ⟨_, by rw [List.append_assoc]; rfl⟩ | exact ⟨_, by simp only [List.append_assoc, List.cons_append, List.nil_append]; rfl⟩ | exact ⟨_, by rw [hp_setj, List.append_assoc]; rfl⟩ | exact ⟨_, hp_setj _ _ _ _⟩ | exact ⟨[], (List.append_nil _).symm⟩)), ?_⟩)
 | ((with_reducible refine AAllR_cons ?_ rfl (fun K hK => ?_) ?_); (exact rfl))
 | (with_reducible exact AAllR_nil)
 | ((with_reducible show thenA _ _ _ _ _); simp only [thenA, blockA, if_true, if_false, reduceIte])
 | ((with_reducible show blockA _ _ _ _ _); simp only [thenA, blockA, if_true, if_false, reduceIte, Nat.reduceEqDiff, reduceCtorEq])
 | (with_reducible refine AOps_cons (fun K hK => ?_))
 | (with_reducible refine AQOps_cons (fun K hK => ?_))
 | ((with_reducible refine AQOps_nil ?_); try simp only [thenA, blockA, if_true, if_false, reduceIte, Nat.reduceEqDiff, reduceCtorEq])
 | ((with_reducible refine AOps_nil ?_); try simp only [thenA, blockA, if_true, if_false, reduceIte, Nat.reduceEqDiff, reduceCtorEq])
 | (with_reducible refine AW_block ?_)
 | ((first | (with_reducible refine AW_ret ?_) | (with_reducible refine AW_skip ?_) | (with_reducible refine AW_exit ?_)); try simp only [thenA, blockA, if_true, if_false, reduceIte, Nat.reduceEqDiff, reduceCtorEq])
 | ((with_reducible show AW _ _ (.cond _ _ _) _ _ _); refine AW_cond rfl (fun hg => ?_) (fun hg => ?_) <;> first | (exfalso; simp only [reduceCtorEq] at hg; done) | ((try simp only [Bool.not_eq_true', Bool.not_eq_false', decide_eq_true_eq, decide_eq_false_iff_not] at hg); try (exfalso; omega)))
 | ((with_reducible show _ ∧ _); refine And.intro (fun hg => ?_) (fun hg => ?_) <;> (try simp only [Bool.not_eq_true', Bool.not_eq_false'] at hg) <;> simp only [hg] <;> (try simp only [decide_eq_true_eq, decide_eq_false_iff_not] at hg) <;> (try (exfalso; omega)))
 | ((first | (with_reducible apply FunH_intro) | (with_reducible apply AQ_intro)); (first | ((with_reducible show FunH _ 21 _ _ _); exact hclo _)))
 | (clear hK K)
    | fail)
  repeat' (first
 | ((with_reducible refine hK _ _ ?_); clear hK K)
 | ((with_reducible refine hK _ ?_); clear hK K; try simp only [])
 | ((first | (with_reducible show AOp _ _ _ _ _ _ _) | (with_reducible show AQOp _ _ _ _ _ _ _)); simp (disch := first | ((with_reducible show liveO _ _ _ = true); first | assumption | (exact liveO_setS (by assumption)) | (exact PtL.live (by assumption)) | (exact PtL.liveA (by assumption) _) | (simp only [go_sem]; done)) | omega | assumption | rfl | (simp only [go_sem]; first | done | omega)) only [go_sem, reduceIte, reduceCtorEq, Nat.reduceAdd, Nat.reduceMul, Nat.reduceSub, Nat.reduceLeDiff, Nat.lt_irrefl, Nat.reduceLT, Nat.reduceEqDiff, Nat.reduceBEq, Int.reduceLE, Int.reduceLT, Int.reduceToNat, w64, eq_self, h.lenm, hl, hwz, hp, imax2, hget, hput2, hlm, z1])
 | (with_reducible refine AW_seq (fun K hK => ?_))
 | (with_reducible refine AW_region tyOk ?_)
 | ((with_reducible refine AW_drawn (id := 6) tyOk 12 ?_ ?_ ?_); (kernel_rfl); (kernel_rfl); simp only [List.take_succ_cons, List.take_zero, List.drop_succ_cons, List.drop_zero])
 | (with_reducible refine AOps_cons (fun K hK => ?_))
 | (with_reducible refine AQOps_cons (fun K hK => ?_))
 | ((with_reducible refine AQOps_nil ?_); try simp only [thenA, blockA, if_true, if_false, reduceIte, Nat.reduceEqDiff, reduceCtorEq])
 | ((with_reducible refine AOps_nil ?_); try simp only [thenA, blockA, if_true, if_false, reduceIte, Nat.reduceEqDiff, reduceCtorEq])
 | (with_reducible refine AW_block ?_)
 | ((first | (with_reducible refine AW_ret ?_) | (with_reducible refine AW_skip ?_) | (with_reducible refine AW_exit ?_)); try simp only [thenA, blockA, if_true, if_false, reduceIte, Nat.reduceEqDiff, reduceCtorEq])
 | ((with_reducible show AW _ _ (.cond _ _ _) _ _ _); refine AW_cond rfl (fun hg => ?_) (fun hg => ?_) <;> first | (exfalso; simp only [reduceCtorEq] at hg; done) | ((try simp only [Bool.not_eq_true', Bool.not_eq_false', decide_eq_true_eq, decide_eq_false_iff_not] at hg); try (exfalso; omega)))
 | ((with_reducible show _ ∧ _); refine And.intro (fun hg => ?_) (fun hg => ?_) <;> (try simp only [Bool.not_eq_true', Bool.not_eq_false'] at hg) <;> simp only [hg] <;> (try simp only [decide_eq_true_eq, decide_eq_false_iff_not] at hg) <;> (try (exfalso; omega)))
 | ((first | (with_reducible apply FunH_intro) | (with_reducible apply AQ_intro)); (first | ((with_reducible show FunH _ 22 _ _ _); exact below_c k s ((cs.length : Nat) : Int) k0 k1 s0 s1 hb1 hb2 _) | ((with_reducible show FunH _ 25 _ _ _); exact salted_c s 1 s0 s1 (by decide) (by decide) _) | ((with_reducible show FunH _ 24 _ _ _); exact hash_c k (saltI s 1) k0 k1 hsb.1 hsb.2 _) | ((with_reducible show FunH _ 23 _ _ _); exact ZerosOf_c _ _ hH.1 hH.2)))
 | (clear hK K)
    | fail)
  refine EndA_rows [some 3] hcl (by first | exact Or.inr rfl | exact Or.inl rfl) (by simp only [Try.results7, resA, aresL, go_sem, reduceIte, reduceCtorEq, Nat.reduceAdd, Nat.reduceMul, Nat.reduceSub, Nat.reduceLeDiff, Nat.lt_irrefl, Nat.reduceLT, Nat.reduceEqDiff, Nat.reduceBEq, Int.reduceLE, Int.reduceLT, Int.reduceToNat, w64, eq_self] <;> rfl) (by decide) ?_ ?_ ⟨rfl, rfl⟩
  rotate_left
  · repeat' (first | exact trivial | apply TdT.tup | apply TdT.one | apply TdL.agg | apply TdL.cell | exact TdB.old _ trivial rfl | exact TdB.own 0 3 _ _ _ _ rfl _ rfl rfl | exact TdB.junk _ | exact TdB.old _ (by assumption) (by assumption) | refine And.intro ?_ ?_)
  all_goals (repeat' (first | (with_reducible exact RowOk.none) | ((with_reducible apply RowOk.emp); exact rfl) | ((with_reducible apply RowOk.eq); (exact rfl); rotate_left; (first | (with_reducible exact scal_int _ _) | (with_reducible exact scal_flt _ _) | (with_reducible exact scal_bool _) | (intro c hc; cases hc; done) | (simp [LV.isCell, bnd]; done))) | exact trivial | refine And.intro ?_ ?_))
  all_goals (try rfl)
theorem mxL_ix {m k : Nat} (a b : List Int) (h : k < m) : ix ((List.range m).map fun p => max (ix a p) (ix b p)) k = max (ix a k) (ix b k) := by
  rw [ix_eq _ _ (by simpa using h)]; simp
/-- The first k cells joined. -/
def jzL (a b : List Int) (k : Nat) : List Int := (List.range a.length).map fun p => if p < k then max (ix a p) (ix b p) else ix a p
theorem jzL_len (a b : List Int) (k : Nat) : (jzL a b k).length = a.length := by simp [jzL]
theorem jzL_zero (a b : List Int) : jzL a b 0 = a := by
  apply List.ext_getElem?
  intro i
  rcases Nat.lt_or_ge i a.length with h | h
  · simp [jzL, h, ix_eq _ _ h]
  · rw [List.getElem?_eq_none (by rw [jzL_len]; exact h), List.getElem?_eq_none h]
theorem jzL_get (a b : List Int) {k : Nat} (h : k < a.length) : ((jzL a b k).map (LV.int .i64))[k]? = some (.int .i64 (ix a k)) := by
  simp [jzL, h]
theorem jzL_set (a b : List Int) {k : Nat} (h : k < a.length) : ((jzL a b k).map (LV.int .i64)).set k (.int .i64 (max (ix a k) (ix b k))) = (jzL a b (k + 1)).map (LV.int .i64) := by
  rw [← List.map_set]
  congr 1
  apply List.ext_getElem?
  intro i
  rcases Nat.lt_or_ge i a.length with hi | hi
  · by_cases e : k = i
    · subst e
      rw [List.getElem?_set_self (by rw [jzL_len]; exact h)]
      simp [jzL, h]
    · rw [List.getElem?_set_ne e]
      have e2 : i < k ↔ i < k + 1 := by omega
      simp [jzL, hi, e2]
  · rw [List.getElem?_eq_none (by rw [List.length_set, jzL_len]; exact hi), List.getElem?_eq_none (by rw [jzL_len]; exact hi)]
theorem jzL_end (a b : List Int) {m : Nat} (h : a.length = m) : jzL a b m = (List.range m).map fun p => max (ix a p) (ix b p) := by
  subst h
  unfold jzL
  exact List.map_congr_left fun p hp => by rw [if_pos (List.mem_range.1 hp)]
set_option maxHeartbeats 4000000 in
theorem iJoinZeros_c (s : Int) (y y2 : LV) (a b : List Int) (H : Hp) (h : RdL H y (a.map (LV.int .i64))) (h' : RdL H y2 (b.map (LV.int .i64))) (e1 : zerB s a = true) (e2 : zerB s b = true) (hab : b.length = a.length) :
    FunH Try.prog 8 [.agg [.int .i64 s, y], .agg [.int .i64 s, y2]] H fun r' H' => r' = .tup [.agg [.int .i64 s, .sl H.length 0 0 a.length none], .bool true] ∧ H' = H ++ [⟨0, false, 2, 1, (jzL a b a.length).map (LV.int .i64)⟩] := by
  obtain ⟨⟨s0, s1⟩, l0, l1, hcs⟩ := zerB_in e1
  have hclo := fun (K : Hp) => Clone_int64_c y a (H ++ K) (h.app K) (by omega)
  have hbl : lenOf y2 = some a.length := by rw [h'.lenm, hab]
  have hss : (s != s) = false := by simp
  have hll : (((a.length : Nat) : Int) != ((a.length : Nat) : Int)) = false := by simp
  have hj0 : a.map (LV.int .i64) = (jzL a b 0).map (LV.int .i64) := by rw [jzL_zero]
  (refine FunH_body tyOk Try.func8 rfl (by kernel_rfl) Try.ntmps8 (fun hcl hbd => ?_); simp only [List.length_cons, List.length_nil, Nat.reduceAdd, Nat.reduceSub, List.replicate, List.cons_append, List.nil_append])
  repeat' (first
 | ((with_reducible refine hK _ _ ?_); clear hK K)
 | ((first | (with_reducible show AOp _ _ _ _ _ _ _)); simp (disch := first | ((with_reducible show liveO _ _ _ = true); first | assumption | (exact liveO_setS (by assumption)) | (exact PtL.live (by assumption)) | (exact PtL.liveA (by assumption) _) | (simp only [go_sem]; done)) | omega | assumption | rfl | (simp only [go_sem]; first | done | omega)) only [go_sem, reduceIte, reduceCtorEq, Nat.reduceAdd, Nat.reduceMul, Nat.reduceSub, Nat.reduceLeDiff, Nat.lt_irrefl, Nat.reduceLT, Nat.reduceEqDiff, Nat.reduceBEq, Int.reduceLE, Int.reduceLT, Int.reduceToNat, w64, eq_self, h.isCell, h'.isCell, h.lenm, hbl, hss, hll, e1, e2])
 | ((with_reducible refine AW_seqN [3] ?_ (fun K hK => ?_)); (exact rfl))
 | (with_reducible refine AW_region tyOk ?_)
 | (with_reducible refine AOps_cons (fun K hK => ?_))
 | ((with_reducible refine AOps_nil ?_); try simp only [thenA, blockA, if_true, if_false, reduceIte, Nat.reduceEqDiff, reduceCtorEq])
 | (with_reducible refine AW_block ?_)
 | ((first | (with_reducible refine AW_ret ?_) | (with_reducible refine AW_skip ?_) | (with_reducible refine AW_exit ?_)); try simp only [thenA, blockA, if_true, if_false, reduceIte, Nat.reduceEqDiff, reduceCtorEq])
 | ((with_reducible show AW _ _ (.cond _ _ _) _ _ _); refine AW_cond rfl (fun hg => ?_) (fun hg => ?_) <;> first | (exfalso; simp only [reduceCtorEq] at hg; done) | ((try simp only [Bool.not_eq_true', Bool.not_eq_false', decide_eq_true_eq, decide_eq_false_iff_not] at hg); try (exfalso; omega)))
 | ((with_reducible show _ ∧ _); refine And.intro (fun hg => ?_) (fun hg => ?_) <;> (try simp only [Bool.not_eq_true', Bool.not_eq_false'] at hg) <;> simp only [hg] <;> (try simp only [decide_eq_true_eq, decide_eq_false_iff_not] at hg) <;> (try (exfalso; omega)))
 | ((with_reducible apply FunH_intro); (first | ((with_reducible show FunH _ 10 _ _ _); exact iValidZeros_c s y a _ (h.app _) (by omega)) | ((with_reducible show FunH _ 10 _ _ _); exact iValidZeros_c s y2 b _ (h'.app _) (by omega))))
 | (clear hK K)
    | fail)
  repeat' (first
 | ((with_reducible refine hK _ _ ?_); clear hK K)
 | ((with_reducible refine hK _ ?_); clear hK K; try simp only [])
 | ((with_reducible refine hK _ _ ?_ ?_); (first | exact Or.inl rfl | exact Or.inr (fun _ => by (first | exact ⟨_, rfl⟩ | exact ⟨_, by rw [List.append_assoc]; rfl⟩ | exact ⟨_, by simp only [List.append_assoc, List.cons_append, List.nil_append]; rfl⟩ | exact ⟨_, by rw [hp_setj, List.append_assoc]; rfl⟩ | exact ⟨_, hp_setj _ _ _ _⟩ | exact ⟨[], (List.append_nil _).symm⟩))); clear hK K)
 | ((first | (with_reducible show AOp _ _ _ _ _ _ _) | (with_reducible show AQOp _ _ _ _ _ _ _)); simp (disch := first | ((with_reducible show liveO _ _ _ = true); first | assumption | (exact liveO_setS (by assumption)) | (exact PtL.live (by assumption)) | (exact PtL.liveA (by assumption) _) | (simp only [go_sem]; done)) | omega | assumption | rfl | (simp only [go_sem]; first | done | omega)) only [go_sem, reduceIte, reduceCtorEq, Nat.reduceAdd, Nat.reduceMul, Nat.reduceSub, Nat.reduceLeDiff, Nat.lt_irrefl, Nat.reduceLT, Nat.reduceEqDiff, Nat.reduceBEq, Int.reduceLE, Int.reduceLT, Int.reduceToNat, w64, eq_self, hbl])
 | (with_reducible refine AW_seq (fun K hK => ?_))
 | (with_reducible refine AW_region tyOk ?_)
 | ((with_reducible apply AW_treeV (id := 3) tyOk 8 [(6, H.length + 3)] [(28, 2)] [7]); (kernel_rfl); (exact rfl); simp only [List.map_cons, List.map_nil, List.append_assoc, List.cons_append, List.nil_append])
 | ((with_reducible refine AAnyR_leaf (by decide +kernel) ?_); (with_reducible exact Wk.refl))
 | ((with_reducible refine AAnyR_quiet 0 rfl rfl ?_ (by decide +kernel) (by decide +kernel) (by decide +kernel) (by decide +kernel) (by (first | exact ⟨_, rfl⟩ | exact ⟨_, by rw [List.append_assoc]; rfl⟩ | exact ⟨_, by simp only [List.append_assoc, List.cons_append, List.nil_append]; rfl⟩ | exact ⟨_, by rw [hp_setj, List.append_assoc]; rfl⟩ | exact ⟨_, hp_setj _ _ _ _⟩ | exact ⟨[], (List.append_nil _).symm⟩)) (fun K hK => ?_)); (exact rfl))
 | ((with_reducible refine AAnyR_quiet 1 rfl rfl ?_ (by decide +kernel) (by decide +kernel) (by decide +kernel) (by decide +kernel) (by (first | exact ⟨_, rfl⟩ | exact ⟨_, by rw [List.append_assoc]; rfl⟩ | exact ⟨_, by simp only [List.append_assoc, List.cons_append, List.nil_append]; rfl⟩ | exact ⟨_, by rw [hp_setj, List.append_assoc]; rfl⟩ | exact ⟨_, hp_setj _ _ _ _⟩ | exact ⟨[], (List.append_nil _).symm⟩)) (fun K hK => ?_)); (exact rfl))
 | ((with_reducible refine AAnyR_quiet 2 rfl rfl ?_ (by decide +kernel) (by decide +kernel) (by decide +kernel) (by decide +kernel) (by (first | exact ⟨_, rfl⟩ | exact ⟨_, by rw [List.append_assoc]; rfl⟩ | exact ⟨_, by simp only [List.append_assoc, List.cons_append, List.nil_append]; rfl⟩ | exact ⟨_, by rw [hp_setj, List.append_assoc]; rfl⟩ | exact ⟨_, hp_setj _ _ _ _⟩ | exact ⟨[], (List.append_nil _).symm⟩)) (fun K hK => ?_)); (exact rfl))
 | ((with_reducible refine AAnyR_quiet 3 rfl rfl ?_ (by decide +kernel) (by decide +kernel) (by decide +kernel) (by decide +kernel) (by (first | exact ⟨_, rfl⟩ | exact ⟨_, by rw [List.append_assoc]; rfl⟩ | exact ⟨_, by simp only [List.append_assoc, List.cons_append, List.nil_append]; rfl⟩ | exact ⟨_, by rw [hp_setj, List.append_assoc]; rfl⟩ | exact ⟨_, hp_setj _ _ _ _⟩ | exact ⟨[], (List.append_nil _).symm⟩)) (fun K hK => ?_)); (exact rfl))
 | (with_reducible refine AAnyR_step 4 [6] (by decide +kernel) ?_)
 | (with_reducible refine AAnyR_step 5 [6] (by decide +kernel) ?_)
 | (with_reducible refine AAnyR_step 4 [] (by decide +kernel) ?_)
 | (with_reducible refine AAnyR_step 5 [] (by decide +kernel) ?_)
 | (with_reducible refine AAnyR_step 6 [] (by decide +kernel) ?_)
 | (with_reducible refine AAnyR_step 7 [] (by decide +kernel) ?_)
 | ((with_reducible refine AAllR_res (i := 6) (H.length + 3) 6 ?_ rfl ?_ (fun K hK => ?_) ?_); (exact rfl); (exact rfl))
 | ((with_reducible show RK _ _ _ _ _ _); (try simp only [List.append_assoc, List.cons_append, List.nil_append, hp_setj, List.set_cons_succ, List.set_cons_zero]); refine RK_intro _ (by first | exact List.append_assoc _ _ _ | rfl) (by first | exact (hp_getj _ _ _).trans rfl | exact (hp_get0 _ _).trans rfl) rfl rfl (by first | exact (fun c hc => (scal_int _ _ c hc).2) | (intro c hc; simp only [List.mem_cons, List.not_mem_nil, or_false] at hc; (try (rcases hc with rfl | rfl | rfl | rfl | rfl)) <;> first | exact trivial | (subst hc; exact trivial) | (cases hc; done))) (by first | exact ⟨_, _, rfl, by simp, Or.inl rfl⟩ | exact ⟨_, _, rfl, by simp, Or.inr ⟨_, rfl⟩⟩) ?_; simp only [hp_setj, hp_set0, List.set_cons_succ, List.set_cons_zero, List.getD_cons_succ, List.getD_cons_zero, reloc]; refine ⟨Or.inr (fun _ => by (first | exact ⟨_, rfl⟩ | exact ⟨_, by rw [List.append_assoc]; rfl⟩ | exact ⟨_, by simp only [List.append_assoc, List.cons_append, List.nil_append]; rfl⟩ | exact ⟨_, by rw [hp_setj, List.append_assoc]; rfl⟩ | exact ⟨_, hp_setj _ _ _ _⟩ | exact ⟨[], (List.append_nil _).symm⟩)), ?_⟩)
 | ((with_reducible refine AAllR_cons ?_ rfl (fun K hK => ?_) ?_); (exact rfl))
 | (with_reducible exact AAllR_nil)
 | ((with_reducible show thenA _ _ _ _ _); simp only [thenA, blockA, if_true, if_false, reduceIte])
 | ((with_reducible show blockA _ _ _ _ _); simp only [thenA, blockA, if_true, if_false, reduceIte, Nat.reduceEqDiff, reduceCtorEq])
 | (with_reducible refine AOps_cons (fun K hK => ?_))
 | (with_reducible refine AQOps_cons (fun K hK => ?_))
 | ((with_reducible refine AQOps_nil ?_); try simp only [thenA, blockA, if_true, if_false, reduceIte, Nat.reduceEqDiff, reduceCtorEq])
 | ((with_reducible refine AOps_nil ?_); try simp only [thenA, blockA, if_true, if_false, reduceIte, Nat.reduceEqDiff, reduceCtorEq])
 | (with_reducible refine AW_block ?_)
 | ((first | (with_reducible refine AW_ret ?_) | (with_reducible refine AW_skip ?_) | (with_reducible refine AW_exit ?_)); try simp only [thenA, blockA, if_true, if_false, reduceIte, Nat.reduceEqDiff, reduceCtorEq])
 | ((with_reducible show AW _ _ (.cond _ _ _) _ _ _); refine AW_cond rfl (fun hg => ?_) (fun hg => ?_) <;> first | (exfalso; simp only [reduceCtorEq] at hg; done) | ((try simp only [Bool.not_eq_true', Bool.not_eq_false', decide_eq_true_eq, decide_eq_false_iff_not] at hg); try (exfalso; omega)))
 | ((with_reducible show _ ∧ _); refine And.intro (fun hg => ?_) (fun hg => ?_) <;> (try simp only [Bool.not_eq_true', Bool.not_eq_false'] at hg) <;> simp only [hg] <;> (try simp only [decide_eq_true_eq, decide_eq_false_iff_not] at hg) <;> (try (exfalso; omega)))
 | ((first | (with_reducible apply FunH_intro) | (with_reducible apply AQ_intro)); (first | ((with_reducible show FunH _ 21 _ _ _); exact hclo _)))
 | (clear hK K)
    | fail)
  refine AW_loopV [7, 8, 43, 44, 45, 46, 47, 48, 49, 50, 51, 52, 53, 54, 55, 56, 57, 58, 59] (fun k : Nat => [(43, .int .i64 (k : Nat))]) (fun k => H ++ [⟨0, false, 28, 2, [.int .i64 s, y]⟩, ⟨0, false, 28, 2, [.int .i64 s, y2]⟩, ⟨0, false, 28, 2, [.int .i64 0, .nils]⟩, ⟨1, false, 28, 2, [.int .i64 s, .sl (H.length + 4) 0 0 a.length none]⟩, ⟨0, false, 2, 1, (jzL a b k).map (LV.int .i64)⟩]) (fun k => k ≤ a.length) (fun k => a.length - k) 0 (Nat.zero_le _) ?_ ?_ ?_
  · simp only [junkAll, setAll, List.foldl_cons, List.foldl_nil, List.set_cons_succ, List.set_cons_zero, JL, true_or, or_true, and_true, true_and, reduceCtorEq, false_or, or_false, LV.int.injEq, LV.bool.injEq, LV.flt.injEq, LV.sl.injEq, LV.ptr.injEq, eq_self, Int.natCast_add, Int.natCast_one, Int.natCast_zero, Int.ofNat_zero]
  · rw [hj0]
  intro k hk K hK
  have hjl : ((jzL a b k).map (LV.int .i64)).length = a.length := by rw [List.length_map, jzL_len]
  simp only [junkAll, setAll, List.foldl_cons, List.foldl_nil, List.set_cons_succ, List.set_cons_zero]
  by_cases hkl : k < a.length
  · have g1 := jzL_get a b hkl
    have g2 := jzL_set a b hkl
    have g3 : hput [(⟨0, false, 2, 1, (jzL a b k).map (LV.int .i64)⟩ : AO)] 0 0 k [.int .i64 (max (ix a k) (ix b k))] = some [⟨0, false, 2, 1, (jzL a b (k + 1)).map (LV.int .i64)⟩] := hput_row g2 (by omega)
    repeat' (first
 | ((with_reducible refine hK _ _ ?_); clear hK K)
 | ((with_reducible refine hK _ ?_); clear hK K; try simp only [])
 | ((first | (with_reducible show AOp _ _ _ _ _ _ _) | (with_reducible show AQOp _ _ _ _ _ _ _)); simp (disch := first | ((with_reducible show liveO _ _ _ = true); first | assumption | (exact liveO_setS (by assumption)) | (exact PtL.live (by assumption)) | (exact PtL.liveA (by assumption) _) | (simp only [go_sem]; done)) | omega | assumption | rfl | (simp only [go_sem]; first | done | omega)) only [go_sem, reduceIte, reduceCtorEq, Nat.reduceAdd, Nat.reduceMul, Nat.reduceSub, Nat.reduceLeDiff, Nat.lt_irrefl, Nat.reduceLT, Nat.reduceEqDiff, Nat.reduceBEq, Int.reduceLE, Int.reduceLT, Int.reduceToNat, w64, eq_self, h'.idxmA, h'.ldmA, hab, imax2, g1, g3, hjl])
 | (with_reducible refine AW_seq (fun K hK => ?_))
 | (with_reducible refine AW_region tyOk ?_)
 | ((with_reducible refine AW_drawn (id := 7) tyOk 11 ?_ ?_ ?_); (kernel_rfl); (kernel_rfl); simp only [List.take_succ_cons, List.take_zero, List.drop_succ_cons, List.drop_zero])
 | (with_reducible refine AOps_cons (fun K hK => ?_))
 | (with_reducible refine AQOps_cons (fun K hK => ?_))
 | ((with_reducible refine AQOps_nil ?_); try simp only [thenA, blockA, if_true, if_false, reduceIte, Nat.reduceEqDiff, reduceCtorEq])
 | ((with_reducible refine AOps_nil ?_); try simp only [thenA, blockA, if_true, if_false, reduceIte, Nat.reduceEqDiff, reduceCtorEq])
 | (with_reducible refine AW_block ?_)
 | ((first | (with_reducible refine AW_ret ?_) | (with_reducible refine AW_skip ?_) | (with_reducible refine AW_exit ?_)); try simp only [thenA, blockA, if_true, if_false, reduceIte, Nat.reduceEqDiff, reduceCtorEq])
 | ((with_reducible show AW _ _ (.cond _ _ _) _ _ _); refine AW_cond rfl (fun hg => ?_) (fun hg => ?_) <;> first | (exfalso; simp only [reduceCtorEq] at hg; done) | ((try simp only [Bool.not_eq_true', Bool.not_eq_false', decide_eq_true_eq, decide_eq_false_iff_not] at hg); try (exfalso; omega)))
 | ((with_reducible show _ ∧ _); refine And.intro (fun hg => ?_) (fun hg => ?_) <;> (try simp only [Bool.not_eq_true', Bool.not_eq_false'] at hg) <;> simp only [hg] <;> (try simp only [decide_eq_true_eq, decide_eq_false_iff_not] at hg) <;> (try (exfalso; omega)))
 | (clear hK K)
      | fail)
    refine hK _ _ (k + 1) (by omega) (by omega) ?_ rfl
    simp only [junkAll, setAll, List.foldl_cons, List.foldl_nil, List.set_cons_succ, List.set_cons_zero, JL, true_or, or_true, and_true, true_and, reduceCtorEq, false_or, or_false, LV.int.injEq, LV.bool.injEq, LV.flt.injEq, LV.sl.injEq, LV.ptr.injEq, eq_self, Int.natCast_add, Int.natCast_one, Int.natCast_zero, Int.ofNat_zero]
  · have hke : k = a.length := by omega
    repeat' (first
 | ((with_reducible refine hK _ _ ?_); clear hK K)
 | ((first | (with_reducible show AOp _ _ _ _ _ _ _)); simp (disch := first | ((with_reducible show liveO _ _ _ = true); first | assumption | (exact liveO_setS (by assumption)) | (exact PtL.live (by assumption)) | (exact PtL.liveA (by assumption) _) | (simp only [go_sem]; done)) | omega | assumption | rfl | (simp only [go_sem]; first | done | omega)) only [go_sem, reduceIte, reduceCtorEq, Nat.reduceAdd, Nat.reduceMul, Nat.reduceSub, Nat.reduceLeDiff, Nat.lt_irrefl, Nat.reduceLT, Nat.reduceEqDiff, Nat.reduceBEq, Int.reduceLE, Int.reduceLT, Int.reduceToNat, w64, eq_self])
 | (with_reducible refine AW_seq (fun K hK => ?_))
 | (with_reducible refine AW_region tyOk ?_)
 | (with_reducible refine AOps_cons (fun K hK => ?_))
 | ((with_reducible refine AOps_nil ?_); try simp only [thenA, blockA, if_true, if_false, reduceIte, Nat.reduceEqDiff, reduceCtorEq])
 | (with_reducible refine AW_block ?_)
 | ((first | (with_reducible refine AW_ret ?_) | (with_reducible refine AW_skip ?_) | (with_reducible refine AW_exit ?_)); try simp only [thenA, blockA, if_true, if_false, reduceIte, Nat.reduceEqDiff, reduceCtorEq])
 | ((with_reducible show AW _ _ (.cond _ _ _) _ _ _); refine AW_cond rfl (fun hg => ?_) (fun hg => ?_) <;> first | (exfalso; simp only [reduceCtorEq] at hg; done) | ((try simp only [Bool.not_eq_true', Bool.not_eq_false', decide_eq_true_eq, decide_eq_false_iff_not] at hg); try (exfalso; omega)))
 | ((with_reducible show _ ∧ _); refine And.intro (fun hg => ?_) (fun hg => ?_) <;> (try simp only [Bool.not_eq_true', Bool.not_eq_false'] at hg) <;> simp only [hg] <;> (try simp only [decide_eq_true_eq, decide_eq_false_iff_not] at hg) <;> (try (exfalso; omega)))
 | (clear hK K)
      | fail)
    rw [hke]
    have hjl2 := jzL_len a b a.length
    refine EndA_rows [some 4] hcl (by first | exact Or.inr rfl | exact Or.inl rfl) (by simp only [Try.results8, resA, aresL, go_sem, reduceIte, reduceCtorEq, Nat.reduceAdd, Nat.reduceMul, Nat.reduceSub, Nat.reduceLeDiff, Nat.lt_irrefl, Nat.reduceLT, Nat.reduceEqDiff, Nat.reduceBEq, Int.reduceLE, Int.reduceLT, Int.reduceToNat, w64, eq_self] <;> rfl) (by decide) ?_ ?_ ⟨rfl, rfl⟩
    rotate_left
    · repeat' (first | exact trivial | apply TdT.tup | apply TdT.one | apply TdL.agg | apply TdL.cell | exact TdB.old _ trivial rfl | exact TdB.own 0 4 _ _ _ _ rfl _ rfl rfl | exact TdB.junk _ | exact TdB.old _ (by assumption) (by assumption) | refine And.intro ?_ ?_)
    all_goals (repeat' (first | (with_reducible exact RowOk.none) | ((with_reducible apply RowOk.emp); exact rfl) | ((with_reducible apply RowOk.eq); (exact rfl); rotate_left; (first | (with_reducible exact scal_int _ _) | (with_reducible exact scal_flt _ _) | (with_reducible exact scal_bool _) | (intro c hc; cases hc; done) | (simp [LV.isCell, bnd]; done))) | exact trivial | refine And.intro ?_ ?_))
    all_goals (try rfl)
end Go.Proofs.Ytpbafacehmjdmaa
