/- The number of levels at a share, in the abstract machine: the program's side. -/
import Derived.Test.YteejnmgjjefbiaaGv
import Derived.Test.YteejnmgjjefbiaaBy
import Derived.Test.YteejnmgjjefbiaaPa
import Derived.Test.YteejnmgjjefbiaaSwa
namespace Go.Proofs.Yteejnmgjjefbiaa
open Go.RowKit
set_option linter.unusedSimpArgs false
set_option linter.unusedVariables false
set_option maxRecDepth 100000

def lqL (ls : List (List Nat)) : Nat → List (Nat × Int)
  | 0 => []
  | n + 1 => lqL ls n ++ (ix ls n).map fun w => (w, ((2 ^ n : Nat) : Int))
def kP (p : Nat × Int) : Int := kW p.1
def Fp (p : Nat × Int) : List LV := [.flt .f32 (some p.1), .int .i64 p.2]
/-- The first number at which the sum of the weights reaches k. -/
def lqF (k : Int) : List (Nat × Int) → Int → Option Nat
  | [], _ => none
  | p :: l, sum => if k ≤ sum + p.2 then some p.1 else lqF k l (sum + p.2)
def lqS (ls : List (List Nat)) : List (Nat × Int) := srt kP (lqL ls ls.length)
def lqC (xss : List (List (Option Nat))) : Int := (stS (fun _ => true) xss xss.length : Nat)
def lqW (xss : List (List (Option Nat))) : List (List Nat) := xss.map fun xs => xs.map fun x => x.getD 0
def lqG (xss : List (List (Option Nat))) (h : Option Nat) : Option Nat := lqF (placeI (h.getD 0) (lqC xss)) (lqS (lqW xss)) 0
def lqB (r s : Int) (xss : List (List (Option Nat))) (h : Option Nat) : Bool := cntB r s xss && !(lqC xss == 0) && shareB h
def lqK (r s : Int) (xss : List (List (Option Nat))) (h : Option Nat) : Bool := lqB r s xss h && (lqG xss h).isSome
def lqV (r s : Int) (xss : List (List (Option Nat))) (h : Option Nat) : Option Nat := if lqB r s xss h then some ((lqG xss h).getD 0) else some 0
theorem Fp_len (p : Nat × Int) : (Fp p).length = 2 := rfl
theorem Fp_cells (p : Nat × Int) : (Fp p).all LV.isCell = true := rfl
theorem lqL_len (ls : List (List Nat)) (h : ∀ j, j < ls.length → (ix ls j).length ≤ 64) : ∀ n, n ≤ ls.length → (lqL ls n).length ≤ 64 * n
  | 0, _ => Nat.le_refl _
  | n + 1, hn => by
    have h1 := lqL_len ls h n (by omega)
    have h2 := h n (by omega)
    rw [lqL, List.length_append, List.length_map]; omega
theorem lqL_in (ls : List (List Nat)) : ∀ n, n ≤ 16 → ∀ p ∈ lqL ls n, 0 ≤ p.2 ∧ p.2 ≤ 65536
  | 0, _, p, hp => by cases hp
  | n + 1, hn, p, hp => by
    rw [lqL] at hp
    rcases List.mem_append.1 hp with h | h
    · exact lqL_in ls n (by omega) p h
    · obtain ⟨w, _, rfl⟩ := List.mem_map.1 h
      have h1 : 2 ^ n ≤ 65536 := Nat.le_trans (Nat.pow_le_pow_right (by omega) (show n ≤ 16 by omega)) (by decide)
      have h2 : 1 ≤ 2 ^ n := Nat.one_le_two_pow
      simp only
      generalize 2 ^ n = e at h1 h2 ⊢
      omega
theorem lqL_at (ls : List (List Nat)) (n j : Nat) (hj : j < (ix ls n).length) : lqL ls n ++ ((ix ls n).take (j + 1)).map (fun w => (w, ((2 ^ n : Nat) : Int))) = (lqL ls n ++ ((ix ls n).take j).map fun w => (w, ((2 ^ n : Nat) : Int))) ++ [(ix (ix ls n) j, ((2 ^ n : Nat) : Int))] := by
  rw [take_ix _ _ hj, List.map_append, List.append_assoc]; rfl
theorem hgetsWj {α : Type} [Inhabited α] {F : α → List LV} (h : ∀ x, (F x).length = 2) {H K : Hp} {j ver el : Nat} {ro : Bool} {D : List α} (hk : K[j]? = some ⟨ver, ro, el, 2, fl F D⟩) {k : Nat} (hD : k < D.length) :
    hgets (H ++ K) (H.length + j) ver (k * 2) 2 = some (F (ix D k)) := by
  have e : (H ++ K)[H.length + j]? = some ⟨ver, ro, el, 2, fl F D⟩ := (hp_getj _ _ _).trans hk
  simp only [hgets, e]
  have h2 : k * 2 + 2 ≤ (fl F D).length := by rw [fl_len h]; omega
  simp [h2, wget h D hD]
theorem lqW_map (ls : List (List Nat)) : lqW (ls.map fun ws => ws.map some) = ls := by
  unfold lqW
  rw [List.map_map]
  conv => rhs; rw [← List.map_id ls]
  refine List.map_congr_left fun ws _ => ?_
  simp only [Function.comp, List.map_map, id]
  conv => rhs; rw [← List.map_id ws]
  exact List.map_congr_left fun w _ => rfl
theorem words_Lq {xss : List (List (Option Nat))} (h : ∀ xs ∈ xss, xs.all finO = true) : ∃ ls : List (List Nat), xss = ls.map fun ws => ws.map some := by
  induction xss with
  | nil => exact ⟨[], rfl⟩
  | cons xs xss ih =>
    obtain ⟨ls, e⟩ := ih fun y hy => h y (List.mem_cons_of_mem _ hy)
    obtain ⟨ws, e2⟩ := words_of (h xs (List.mem_cons_self ..))
    exact ⟨ws :: ls, by rw [e, e2]; rfl⟩
theorem ix_wmap (ls : List (List Nat)) {k : Nat} (h : k < ls.length) : ix (ls.map fun ws => ws.map some) k = (ix ls k).map some := by
  rw [ix_eq _ _ (by rw [List.length_map]; exact h), ix_eq _ _ h, List.getElem_map]
theorem shl_one {k : Nat} (hk : k ≤ 16) : IntKind.i64.wrap (1 * 2 ^ min k 64) = ((2 ^ k : Nat) : Int) := by
  have := shl_eq 1 k (by omega) hk
  rw [Nat.one_mul] at this
  exact this
theorem fl_isCell {α : Type} [Inhabited α] {F : α → List LV} (h : ∀ x, (F x).all LV.isCell = true) (D : List α) : (fl F D).all LV.isCell = true := by
  induction D with
  | nil => rfl
  | cons a D ih => rw [fl_cons, List.all_append, h, ih]; rfl
theorem aappW {te : TE} {el : Nat} {H : Hp} {id ver n : Nat} {D : List (Nat × Int)} {news : List LV} (hs : te.sz = 2) (hb : te.by_ = 16) (hD : D.length = n) (hn : n ≤ 1048576) (hw : news.length = 2) :
    aappO te el H id ver 0 n none 1 news (some ⟨ver, false, el, 2, fl Fp D⟩) = some (.sl id (ver + 1) 0 (n + 1) none, H.set id ⟨ver + 1, false, el, 2, fl Fp D ++ news⟩) := by
  have h1 := fl_len Fp_len D
  have h2 := fl_isCell Fp_cells D
  unfold aappO
  simp only [hs, hb]
  rw [if_neg (by simp), if_neg (by simp), if_neg (by simp), if_neg (by simp), if_neg (by omega), if_pos ⟨trivial, by omega, h2, by omega, by omega⟩]
theorem cmpP_ok : CmpW Fp (fun a b => cmpF (some a.1) (some b.1)) kP 22 [] where
  call x y H := by
    (refine FunH_body tyOk Try.func22 rfl (by kernel_rfl) Try.ntmps22 (fun hcl hbd => ?_); simp only [List.length_cons, List.length_nil, Nat.reduceAdd, Nat.reduceSub, List.replicate, List.cons_append, List.nil_append])
    repeat' (first
      | ((with_reducible refine hK _ _ ?_); clear hK K)
      | ((first | (with_reducible show AOp _ _ _ _ _ _ _)); simp (disch := first | ((with_reducible show liveO _ _ _ = true); first | assumption | (exact liveO_setS (by assumption)) | (exact PtL.live (by assumption)) | (exact PtL.liveA (by assumption) _) | (simp only [go_sem]; done)) | omega | assumption | rfl | (simp only [go_sem]; first | done | omega)) only [go_sem, reduceIte, reduceCtorEq, Nat.reduceAdd, Nat.reduceMul, Nat.reduceSub, Nat.reduceLeDiff, Nat.lt_irrefl, Nat.reduceLT, Nat.reduceEqDiff, Nat.reduceBEq, Int.reduceLE, Int.reduceLT, Int.reduceToNat, w64, eq_self, Fp])
      | (with_reducible refine AW_seq (fun K hK => ?_))
      | (with_reducible refine AW_region tyOk ?_)
      | (with_reducible refine AOps_cons (fun K hK => ?_))
      | ((with_reducible refine AOps_nil ?_); try simp only [thenA, blockA, if_true, if_false, reduceIte, Nat.reduceEqDiff, reduceCtorEq])
      | (with_reducible refine AW_block ?_)
      | ((first | (with_reducible refine AW_ret ?_) | (with_reducible refine AW_skip ?_) | (with_reducible refine AW_exit ?_)); try simp only [thenA, blockA, if_true, if_false, reduceIte, Nat.reduceEqDiff, reduceCtorEq])
      | ((with_reducible show AW _ _ (.cond _ _ _) _ _ _); refine AW_cond rfl (fun hg => ?_) (fun hg => ?_) <;> first | (exfalso; simp only [reduceCtorEq] at hg; done) | ((try simp only [Bool.not_eq_true', Bool.not_eq_false', decide_eq_true_eq, decide_eq_false_iff_not] at hg); try (exfalso; omega)))
      | ((with_reducible show _ ∧ _); refine And.intro (fun hg => ?_) (fun hg => ?_) <;> (try simp only [Bool.not_eq_true', Bool.not_eq_false'] at hg) <;> simp only [hg] <;> (try simp only [decide_eq_true_eq, decide_eq_false_iff_not] at hg) <;> (try (exfalso; omega)))
      | ((with_reducible apply FunH_intro); (first | exact compareNumbers_c _ _ _))
      | (clear hK K)
      | fail)
    all_goals (refine EndA_cut hcl (by first | exact Or.inr rfl | exact Or.inl rfl) (by simp only [Try.results22, resA, aresL, go_sem, reduceIte, reduceCtorEq, Nat.reduceAdd, Nat.reduceMul, Nat.reduceSub, Nat.reduceLeDiff, Nat.lt_irrefl, Nat.reduceLT, Nat.reduceEqDiff, Nat.reduceBEq, Int.reduceLE, Int.reduceLT, Int.reduceToNat, w64, eq_self] <;> rfl) rfl ?_)
    all_goals exact ⟨rfl, rfl⟩
  neg x y := by
    have := cmpF_lt (some x.1) (some y.1)
    unfold ltF at this
    rw [kW_lt, decide_eq_decide] at this
    exact this
  len := Fp_len
  cells := Fp_cells
set_option maxHeartbeats 4000000 in
theorem iLevelsQuantile_c (r s : Int) (v : LV) (L : List LV) (xss : List (List (Option Nat))) (z : Option Nat) (H : Hp) (h : RdL H v L) (hL : RdLL H L xss) (hn : totL xss ≤ 1048576) :
    FunH Try.prog 9 [.agg [.int .i64 r, .int .i64 s, v], .flt .f32 z] H fun r' H' => r' = .tup [.flt .f32 (lqV r s xss z), .bool (lqK r s xss z)] ∧ H' = H := by
  have hlen := hL.length
  have hll := h.lenL hL
  have hcnt := fun K => iLevelsCount_c r s v L xss (H ++ K) (h.app K) (hL.app K) hn
  unfold lqK lqV
  cases e1 : lqB r s xss z
  · have e2 : (cntB r s xss && !(lqC xss == 0) && shareB z) = false := e1
    cases e3 : cntB r s xss
    · rw [e3] at hcnt
      (refine FunH_body tyOk Try.func9 rfl (by kernel_rfl) Try.ntmps9 (fun hcl hbd => ?_); simp only [List.length_cons, List.length_nil, Nat.reduceAdd, Nat.reduceSub, List.replicate, List.cons_append, List.nil_append])
      repeat' (first
        | ((with_reducible refine hK _ _ ?_); clear hK K)
        | ((first | (with_reducible show AOp _ _ _ _ _ _ _)); simp (disch := first | ((with_reducible show liveO _ _ _ = true); first | assumption | (exact liveO_setS (by assumption)) | (exact PtL.live (by assumption)) | (exact PtL.liveA (by assumption) _) | (simp only [go_sem]; done)) | omega | assumption | rfl | (simp only [go_sem]; first | done | omega)) only [go_sem, reduceIte, reduceCtorEq, Nat.reduceAdd, Nat.reduceMul, Nat.reduceSub, Nat.reduceLeDiff, Nat.lt_irrefl, Nat.reduceLT, Nat.reduceEqDiff, Nat.reduceBEq, Int.reduceLE, Int.reduceLT, Int.reduceToNat, w64, eq_self, h.isCell])
        | (with_reducible refine AW_seq (fun K hK => ?_))
        | (with_reducible refine AW_region tyOk ?_)
        | (with_reducible refine AOps_cons (fun K hK => ?_))
        | ((with_reducible refine AOps_nil ?_); try simp only [thenA, blockA, if_true, if_false, reduceIte, Nat.reduceEqDiff, reduceCtorEq])
        | (with_reducible refine AW_block ?_)
        | ((first | (with_reducible refine AW_ret ?_) | (with_reducible refine AW_skip ?_) | (with_reducible refine AW_exit ?_)); try simp only [thenA, blockA, if_true, if_false, reduceIte, Nat.reduceEqDiff, reduceCtorEq])
        | ((with_reducible show AW _ _ (.cond _ _ _) _ _ _); refine AW_cond rfl (fun hg => ?_) (fun hg => ?_) <;> first | (exfalso; simp only [reduceCtorEq] at hg; done) | ((try simp only [Bool.not_eq_true', Bool.not_eq_false', decide_eq_true_eq, decide_eq_false_iff_not] at hg); try (exfalso; omega)))
        | ((with_reducible show _ ∧ _); refine And.intro (fun hg => ?_) (fun hg => ?_) <;> (try simp only [Bool.not_eq_true', Bool.not_eq_false'] at hg) <;> simp only [hg] <;> (try simp only [decide_eq_true_eq, decide_eq_false_iff_not] at hg) <;> (try (exfalso; omega)))
        | ((with_reducible apply FunH_intro); (first | exact hcnt _ | exact iLevelsCount_c _ _ _ _ _ _ (by first | assumption | exact RdL.app (by assumption) _ | exact RdL_hj rfl (by simp) | exact RdL_h0 rfl (by simp) | exact RdL_nil | exact RdL_emp) (by first | assumption | exact RdLL.app (by assumption) _) (by first | assumption | omega | (simp; omega) | (simp; done)) | exact isShare_c _ _ | exact SortStableW_c _ _ _ _ _ _ _ (by first | assumption | exact (hp_getj _ _ _).trans rfl | exact (hp_get0 _ _).trans rfl) (by first | rfl | assumption | omega | (simp; done)) (by first | assumption | omega | (simp; omega) | (simp; done)) | exact iplace_c _ _ _ _ (by first | assumption | omega | (simp; omega) | (simp; done)) (by first | assumption | omega | (simp; omega) | (simp; done))))
        | (clear hK K)
        | fail)
      all_goals (refine EndA_cut hcl (by first | exact Or.inr rfl | exact Or.inl rfl) (by simp only [Try.results9, resA, aresL, go_sem, reduceIte, reduceCtorEq, Nat.reduceAdd, Nat.reduceMul, Nat.reduceSub, Nat.reduceLeDiff, Nat.lt_irrefl, Nat.reduceLT, Nat.reduceEqDiff, Nat.reduceBEq, Int.reduceLE, Int.reduceLT, Int.reduceToNat, w64, eq_self] <;> rfl) rfl ?_)
      all_goals exact ⟨rfl, rfl⟩
    · rw [e3] at hcnt e2
      simp only [if_true, reduceIte] at hcnt
      obtain ⟨c, hc⟩ : ∃ c, lqC xss = c := ⟨_, rfl⟩
      have hc0 : ((stS (fun _ => true) xss xss.length : Nat) : Int) = c := hc
      rw [hc] at e2
      simp only [hc0] at hcnt
      cases e4 : (c == 0)
      · rw [e4] at e2
        have e5 : shareB z = false := e2
        (refine FunH_body tyOk Try.func9 rfl (by kernel_rfl) Try.ntmps9 (fun hcl hbd => ?_); simp only [List.length_cons, List.length_nil, Nat.reduceAdd, Nat.reduceSub, List.replicate, List.cons_append, List.nil_append])
        repeat' (first
          | ((with_reducible refine hK _ _ ?_); clear hK K)
          | ((first | (with_reducible show AOp _ _ _ _ _ _ _)); simp (disch := first | ((with_reducible show liveO _ _ _ = true); first | assumption | (exact liveO_setS (by assumption)) | (exact PtL.live (by assumption)) | (exact PtL.liveA (by assumption) _) | (simp only [go_sem]; done)) | omega | assumption | rfl | (simp only [go_sem]; first | done | omega)) only [go_sem, reduceIte, reduceCtorEq, Nat.reduceAdd, Nat.reduceMul, Nat.reduceSub, Nat.reduceLeDiff, Nat.lt_irrefl, Nat.reduceLT, Nat.reduceEqDiff, Nat.reduceBEq, Int.reduceLE, Int.reduceLT, Int.reduceToNat, w64, eq_self, h.isCell, e4, e5])
          | (with_reducible refine AW_seq (fun K hK => ?_))
          | (with_reducible refine AW_region tyOk ?_)
          | (with_reducible refine AOps_cons (fun K hK => ?_))
          | ((with_reducible refine AOps_nil ?_); try simp only [thenA, blockA, if_true, if_false, reduceIte, Nat.reduceEqDiff, reduceCtorEq])
          | (with_reducible refine AW_block ?_)
          | ((first | (with_reducible refine AW_ret ?_) | (with_reducible refine AW_skip ?_) | (with_reducible refine AW_exit ?_)); try simp only [thenA, blockA, if_true, if_false, reduceIte, Nat.reduceEqDiff, reduceCtorEq])
          | ((with_reducible show AW _ _ (.cond _ _ _) _ _ _); refine AW_cond rfl (fun hg => ?_) (fun hg => ?_) <;> first | (exfalso; simp only [reduceCtorEq] at hg; done) | ((try simp only [Bool.not_eq_true', Bool.not_eq_false', decide_eq_true_eq, decide_eq_false_iff_not] at hg); try (exfalso; omega)))
          | ((with_reducible show _ ∧ _); refine And.intro (fun hg => ?_) (fun hg => ?_) <;> (try simp only [Bool.not_eq_true', Bool.not_eq_false'] at hg) <;> simp only [hg] <;> (try simp only [decide_eq_true_eq, decide_eq_false_iff_not] at hg) <;> (try (exfalso; omega)))
          | ((with_reducible apply FunH_intro); (first | exact hcnt _ | exact iLevelsCount_c _ _ _ _ _ _ (by first | assumption | exact RdL.app (by assumption) _ | exact RdL_hj rfl (by simp) | exact RdL_h0 rfl (by simp) | exact RdL_nil | exact RdL_emp) (by first | assumption | exact RdLL.app (by assumption) _) (by first | assumption | omega | (simp; omega) | (simp; done)) | exact isShare_c _ _ | exact SortStableW_c _ _ _ _ _ _ _ (by first | assumption | exact (hp_getj _ _ _).trans rfl | exact (hp_get0 _ _).trans rfl) (by first | rfl | assumption | omega | (simp; done)) (by first | assumption | omega | (simp; omega) | (simp; done)) | exact iplace_c _ _ _ _ (by first | assumption | omega | (simp; omega) | (simp; done)) (by first | assumption | omega | (simp; omega) | (simp; done))))
          | (clear hK K)
          | fail)
        all_goals (refine EndA_cut hcl (by first | exact Or.inr rfl | exact Or.inl rfl) (by simp only [Try.results9, resA, aresL, go_sem, reduceIte, reduceCtorEq, Nat.reduceAdd, Nat.reduceMul, Nat.reduceSub, Nat.reduceLeDiff, Nat.lt_irrefl, Nat.reduceLT, Nat.reduceEqDiff, Nat.reduceBEq, Int.reduceLE, Int.reduceLT, Int.reduceToNat, w64, eq_self] <;> rfl) rfl ?_)
        all_goals exact ⟨rfl, rfl⟩
      · (refine FunH_body tyOk Try.func9 rfl (by kernel_rfl) Try.ntmps9 (fun hcl hbd => ?_); simp only [List.length_cons, List.length_nil, Nat.reduceAdd, Nat.reduceSub, List.replicate, List.cons_append, List.nil_append])
        repeat' (first
          | ((with_reducible refine hK _ _ ?_); clear hK K)
          | ((first | (with_reducible show AOp _ _ _ _ _ _ _)); simp (disch := first | ((with_reducible show liveO _ _ _ = true); first | assumption | (exact liveO_setS (by assumption)) | (exact PtL.live (by assumption)) | (exact PtL.liveA (by assumption) _) | (simp only [go_sem]; done)) | omega | assumption | rfl | (simp only [go_sem]; first | done | omega)) only [go_sem, reduceIte, reduceCtorEq, Nat.reduceAdd, Nat.reduceMul, Nat.reduceSub, Nat.reduceLeDiff, Nat.lt_irrefl, Nat.reduceLT, Nat.reduceEqDiff, Nat.reduceBEq, Int.reduceLE, Int.reduceLT, Int.reduceToNat, w64, eq_self, h.isCell, e4])
          | (with_reducible refine AW_seq (fun K hK => ?_))
          | (with_reducible refine AW_region tyOk ?_)
          | (with_reducible refine AOps_cons (fun K hK => ?_))
          | ((with_reducible refine AOps_nil ?_); try simp only [thenA, blockA, if_true, if_false, reduceIte, Nat.reduceEqDiff, reduceCtorEq])
          | (with_reducible refine AW_block ?_)
          | ((first | (with_reducible refine AW_ret ?_) | (with_reducible refine AW_skip ?_) | (with_reducible refine AW_exit ?_)); try simp only [thenA, blockA, if_true, if_false, reduceIte, Nat.reduceEqDiff, reduceCtorEq])
          | ((with_reducible show AW _ _ (.cond _ _ _) _ _ _); refine AW_cond rfl (fun hg => ?_) (fun hg => ?_) <;> first | (exfalso; simp only [reduceCtorEq] at hg; done) | ((try simp only [Bool.not_eq_true', Bool.not_eq_false', decide_eq_true_eq, decide_eq_false_iff_not] at hg); try (exfalso; omega)))
          | ((with_reducible show _ ∧ _); refine And.intro (fun hg => ?_) (fun hg => ?_) <;> (try simp only [Bool.not_eq_true', Bool.not_eq_false'] at hg) <;> simp only [hg] <;> (try simp only [decide_eq_true_eq, decide_eq_false_iff_not] at hg) <;> (try (exfalso; omega)))
          | ((with_reducible apply FunH_intro); (first | exact hcnt _ | exact iLevelsCount_c _ _ _ _ _ _ (by first | assumption | exact RdL.app (by assumption) _ | exact RdL_hj rfl (by simp) | exact RdL_h0 rfl (by simp) | exact RdL_nil | exact RdL_emp) (by first | assumption | exact RdLL.app (by assumption) _) (by first | assumption | omega | (simp; omega) | (simp; done)) | exact isShare_c _ _ | exact SortStableW_c _ _ _ _ _ _ _ (by first | assumption | exact (hp_getj _ _ _).trans rfl | exact (hp_get0 _ _).trans rfl) (by first | rfl | assumption | omega | (simp; done)) (by first | assumption | omega | (simp; omega) | (simp; done)) | exact iplace_c _ _ _ _ (by first | assumption | omega | (simp; omega) | (simp; done)) (by first | assumption | omega | (simp; omega) | (simp; done))))
          | (clear hK K)
          | fail)
        all_goals (refine EndA_cut hcl (by first | exact Or.inr rfl | exact Or.inl rfl) (by simp only [Try.results9, resA, aresL, go_sem, reduceIte, reduceCtorEq, Nat.reduceAdd, Nat.reduceMul, Nat.reduceSub, Nat.reduceLeDiff, Nat.lt_irrefl, Nat.reduceLT, Nat.reduceEqDiff, Nat.reduceBEq, Int.reduceLE, Int.reduceLT, Int.reduceToNat, w64, eq_self] <;> rfl) rfl ?_)
        all_goals exact ⟨rfl, rfl⟩
  · obtain ⟨⟨e2, e3⟩, e4⟩ : (cntB r s xss = true ∧ ¬ lqC xss = 0) ∧ shareB z = true := by unfold lqB at e1; simpa using e1
    obtain ⟨z, rfl, hw⟩ := share_some' e4
    obtain ⟨c, hc⟩ : ∃ c, lqC xss = c := ⟨_, rfl⟩
    have hc0 : ((stS (fun _ => true) xss xss.length : Nat) : Int) = c := hc
    have e5 := e2
    unfold cntB at e5
    simp only [Bool.and_eq_true, decide_eq_true_eq] at e5
    obtain ⟨h1, h2, h3, h4, _⟩ := levB_len e5.1
    have hcb : 0 ≤ c ∧ c ≤ 2000000 := by omega
    have hp1 := fun H => iplace_c z c H hw (by omega) (by omega)
    have e3' : (c == 0) = false := by rw [← hc]; simpa using e3
    rw [e2] at hcnt
    simp only [if_true, reduceIte, hc0] at hcnt
    (refine FunH_body tyOk Try.func9 rfl (by kernel_rfl) Try.ntmps9 (fun hcl hbd => ?_); simp only [List.length_cons, List.length_nil, Nat.reduceAdd, Nat.reduceSub, List.replicate, List.cons_append, List.nil_append])
    repeat' (first
      | ((with_reducible refine hK _ _ ?_); clear hK K)
      | ((first | (with_reducible show AOp _ _ _ _ _ _ _)); simp (disch := first | ((with_reducible show liveO _ _ _ = true); first | assumption | (exact liveO_setS (by assumption)) | (exact PtL.live (by assumption)) | (exact PtL.liveA (by assumption) _) | (simp only [go_sem]; done)) | omega | assumption | rfl | (simp only [go_sem]; first | done | omega)) only [go_sem, reduceIte, reduceCtorEq, Nat.reduceAdd, Nat.reduceMul, Nat.reduceSub, Nat.reduceLeDiff, Nat.lt_irrefl, Nat.reduceLT, Nat.reduceEqDiff, Nat.reduceBEq, Int.reduceLE, Int.reduceLT, Int.reduceToNat, w64, eq_self, h.isCell, hll, e3', e4])
      | (with_reducible refine AW_seq (fun K hK => ?_))
      | (with_reducible refine AW_region tyOk ?_)
      | (with_reducible refine AOps_cons (fun K hK => ?_))
      | ((with_reducible refine AOps_nil ?_); try simp only [thenA, blockA, if_true, if_false, reduceIte, Nat.reduceEqDiff, reduceCtorEq])
      | (with_reducible refine AW_block ?_)
      | ((first | (with_reducible refine AW_ret ?_) | (with_reducible refine AW_skip ?_) | (with_reducible refine AW_exit ?_)); try simp only [thenA, blockA, if_true, if_false, reduceIte, Nat.reduceEqDiff, reduceCtorEq])
      | ((with_reducible show AW _ _ (.cond _ _ _) _ _ _); refine AW_cond rfl (fun hg => ?_) (fun hg => ?_) <;> first | (exfalso; simp only [reduceCtorEq] at hg; done) | ((try simp only [Bool.not_eq_true', Bool.not_eq_false', decide_eq_true_eq, decide_eq_false_iff_not] at hg); try (exfalso; omega)))
      | ((with_reducible show _ ∧ _); refine And.intro (fun hg => ?_) (fun hg => ?_) <;> (try simp only [Bool.not_eq_true', Bool.not_eq_false'] at hg) <;> simp only [hg] <;> (try simp only [decide_eq_true_eq, decide_eq_false_iff_not] at hg) <;> (try (exfalso; omega)))
      | ((with_reducible apply FunH_intro); (first | exact hcnt _ | exact hp1 _ | exact iLevelsCount_c _ _ _ _ _ _ (by first | assumption | exact RdL.app (by assumption) _ | exact RdL_hj rfl (by simp) | exact RdL_h0 rfl (by simp) | exact RdL_nil | exact RdL_emp) (by first | assumption | exact RdLL.app (by assumption) _) (by first | assumption | omega | (simp; omega) | (simp; done)) | exact isShare_c _ _ | exact SortStableW_c _ _ _ _ _ _ _ (by first | assumption | exact (hp_getj _ _ _).trans rfl | exact (hp_get0 _ _).trans rfl) (by first | rfl | assumption | omega | (simp; done)) (by first | assumption | omega | (simp; omega) | (simp; done)) | exact iplace_c _ _ _ _ (by first | assumption | omega | (simp; omega) | (simp; done)) (by first | assumption | omega | (simp; omega) | (simp; done))))
      | (clear hK K)
      | fail)
    obtain ⟨ls, rfl⟩ := words_Lq h4
    rw [List.length_map] at h1 h2 h3 hlen hll
    have h3' : ∀ j, j < ls.length → (ix ls j).length ≤ 64 := fun j hj => by
      have := h3 j hj; rw [ix_wmap _ hj, List.length_map] at this; exact this
    refine AW_loopV [8, 9, 10, 12, 37, 38, 39, 40, 41, 42, 43, 44, 45, 46, 47, 48, 49, 50, 51, 52, 53, 54, 55, 56] (fun p : Nat × Nat × Hp => [(8, .sl (H.length + 1) p.2.1 0 (lqL ls p.1).length none), (37, .int .i64 (p.1 : Nat))]) (fun p => H ++ (⟨0, false, 29, 3, [.int .i64 r, .int .i64 s, v]⟩ :: ⟨p.2.1, false, 48, 2, fl Fp (lqL ls p.1)⟩ :: p.2.2)) (fun p => p.1 ≤ ls.length) (fun p => ls.length - p.1) (0, 0, []) (Nat.zero_le _) ?_ rfl ?_
    · simp only [junkAll, setAll, List.foldl_cons, List.foldl_nil, List.set_cons_succ, List.set_cons_zero, JL, true_or, or_true, and_true, true_and, reduceCtorEq, false_or, or_false, LV.int.injEq, LV.bool.injEq, LV.flt.injEq, LV.sl.injEq, LV.ptr.injEq, eq_self, Int.natCast_add, Int.natCast_one, Int.natCast_zero, Int.ofNat_zero]; rfl
    intro ⟨n, ver, G⟩ hnl K hK
    simp only at hnl
    simp only [junkAll, setAll, List.foldl_cons, List.foldl_nil, List.set_cons_succ, List.set_cons_zero]
    have hfl := fl_len Fp_len (lqL ls n)
    have hln := lqL_len ls h3' n hnl
    by_cases hnn : n < ls.length
    · have hi := hL.at (k := n) (by rw [List.length_map]; exact hnn)
      rw [ix_wmap _ hnn] at hi
      have hiw := h3' n hnn
      have hsh := shl_one (k := n) (by omega)
      repeat' (first
        | ((with_reducible refine hK _ _ ?_); clear hK K)
        | ((first | (with_reducible show AOp _ _ _ _ _ _ _)); simp (disch := first | ((with_reducible show liveO _ _ _ = true); first | assumption | (exact liveO_setS (by assumption)) | (exact PtL.live (by assumption)) | (exact PtL.liveA (by assumption) _) | (simp only [go_sem]; done)) | omega | assumption | rfl | (simp only [go_sem]; first | done | omega)) only [go_sem, reduceIte, reduceCtorEq, Nat.reduceAdd, Nat.reduceMul, Nat.reduceSub, Nat.reduceLeDiff, Nat.lt_irrefl, Nat.reduceLT, Nat.reduceEqDiff, Nat.reduceBEq, Int.reduceLE, Int.reduceLT, Int.reduceToNat, w64, eq_self, hll, h.idxA, h.ldxA, hi.lenm])
        | (with_reducible refine AW_seq (fun K hK => ?_))
        | (with_reducible refine AW_region tyOk ?_)
        | (with_reducible refine AOps_cons (fun K hK => ?_))
        | ((with_reducible refine AOps_nil ?_); try simp only [thenA, blockA, if_true, if_false, reduceIte, Nat.reduceEqDiff, reduceCtorEq])
        | (with_reducible refine AW_block ?_)
        | ((first | (with_reducible refine AW_ret ?_) | (with_reducible refine AW_skip ?_) | (with_reducible refine AW_exit ?_)); try simp only [thenA, blockA, if_true, if_false, reduceIte, Nat.reduceEqDiff, reduceCtorEq])
        | ((with_reducible show AW _ _ (.cond _ _ _) _ _ _); refine AW_cond rfl (fun hg => ?_) (fun hg => ?_) <;> first | (exfalso; simp only [reduceCtorEq] at hg; done) | ((try simp only [Bool.not_eq_true', Bool.not_eq_false', decide_eq_true_eq, decide_eq_false_iff_not] at hg); try (exfalso; omega)))
        | ((with_reducible show _ ∧ _); refine And.intro (fun hg => ?_) (fun hg => ?_) <;> (try simp only [Bool.not_eq_true', Bool.not_eq_false'] at hg) <;> simp only [hg] <;> (try simp only [decide_eq_true_eq, decide_eq_false_iff_not] at hg) <;> (try (exfalso; omega)))
        | (clear hK K)
        | fail)
      refine AW_loopV [8, 12, 44, 45, 46, 47, 48, 49, 50, 51, 52, 53, 54, 55] (fun p : Nat × Nat × Hp => [(8, .sl (H.length + 1) p.2.1 0 ((lqL ls n).length + p.1) none), (44, .int .i64 (p.1 : Nat))]) (fun p => H ++ (⟨0, false, 29, 3, [.int .i64 r, .int .i64 s, v]⟩ :: ⟨p.2.1, false, 48, 2, fl Fp (lqL ls n ++ ((ix ls n).take p.1).map fun w => (w, ((2 ^ n : Nat) : Int)))⟩ :: p.2.2)) (fun p => p.1 ≤ (ix ls n).length) (fun p => (ix ls n).length - p.1) (0, ver, G) (Nat.zero_le _) ?_ ?_ ?_
      · simp only [junkAll, setAll, List.foldl_cons, List.foldl_nil, List.set_cons_succ, List.set_cons_zero, JL, true_or, or_true, and_true, true_and, reduceCtorEq, false_or, or_false, LV.int.injEq, LV.bool.injEq, LV.flt.injEq, LV.sl.injEq, LV.ptr.injEq, eq_self, Int.natCast_add, Int.natCast_one, Int.natCast_zero, Int.ofNat_zero]; rfl
      · simp only [List.take_zero, List.map_nil, List.append_nil]
      intro ⟨j, ver, G⟩ hj K2 hK2
      simp only at hj
      simp only [junkAll, setAll, List.foldl_cons, List.foldl_nil, List.set_cons_succ, List.set_cons_zero]
      obtain ⟨D, hD⟩ : ∃ D, lqL ls n ++ ((ix ls n).take j).map (fun w => (w, ((2 ^ n : Nat) : Int))) = D := ⟨_, rfl⟩
      have hDl : D.length = (lqL ls n).length + j := by rw [← hD, List.length_append, List.length_map, List.length_take]; omega
      have hfD := fl_len Fp_len D
      rw [hD]
      by_cases hjn : j < (ix ls n).length
      · have hx : ix ((ix ls n).map some) j = some (ix (ix ls n) j) := by
          rw [ix_eq _ _ (by rw [List.length_map]; exact hjn), ix_eq _ _ hjn, List.getElem_map]
        have hat := lqL_at ls n j hjn
        rw [hD] at hat
        have haa := fun (te : TE) (H1 : Hp) (hs : te.sz = 2) (hb : te.by_ = 16) (news : List LV) (hw : news.length = 2) => aappW (el := 48) (H := H1) (id := H.length + 1) (ver := ver) (n := (lqL ls n).length + j) (D := D) (news := news) hs hb hDl (by omega) hw
        repeat' (first
          | ((with_reducible refine hK _ _ ?_); clear hK K)
          | ((first | (with_reducible show AOp _ _ _ _ _ _ _)); simp (disch := first | ((with_reducible show liveO _ _ _ = true); first | assumption | (exact liveO_setS (by assumption)) | (exact PtL.live (by assumption)) | (exact PtL.liveA (by assumption) _) | (simp only [go_sem]; done)) | omega | assumption | rfl | (simp only [go_sem]; first | done | omega)) only [go_sem, reduceIte, reduceCtorEq, Nat.reduceAdd, Nat.reduceMul, Nat.reduceSub, Nat.reduceLeDiff, Nat.lt_irrefl, Nat.reduceLT, Nat.reduceEqDiff, Nat.reduceBEq, Int.reduceLE, Int.reduceLT, Int.reduceToNat, w64, eq_self, hll, h.idxA, h.ldxA, hi.lenm, hi.idxmA, hi.ldmA, hx, ite_nn, hsh, haa])
          | (with_reducible refine AW_seq (fun K hK => ?_))
          | (with_reducible refine AW_region tyOk ?_)
          | (with_reducible refine AOps_cons (fun K hK => ?_))
          | ((with_reducible refine AOps_nil ?_); try simp only [thenA, blockA, if_true, if_false, reduceIte, Nat.reduceEqDiff, reduceCtorEq])
          | (with_reducible refine AW_block ?_)
          | ((first | (with_reducible refine AW_ret ?_) | (with_reducible refine AW_skip ?_) | (with_reducible refine AW_exit ?_)); try simp only [thenA, blockA, if_true, if_false, reduceIte, Nat.reduceEqDiff, reduceCtorEq])
          | ((with_reducible show AW _ _ (.cond _ _ _) _ _ _); refine AW_cond rfl (fun hg => ?_) (fun hg => ?_) <;> first | (exfalso; simp only [reduceCtorEq] at hg; done) | ((try simp only [Bool.not_eq_true', Bool.not_eq_false', decide_eq_true_eq, decide_eq_false_iff_not] at hg); try (exfalso; omega)))
          | ((with_reducible show _ ∧ _); refine And.intro (fun hg => ?_) (fun hg => ?_) <;> (try simp only [Bool.not_eq_true', Bool.not_eq_false'] at hg) <;> simp only [hg] <;> (try simp only [decide_eq_true_eq, decide_eq_false_iff_not] at hg) <;> (try (exfalso; omega)))
          | (clear hK K)
          | fail)
        refine hK2 _ _ (j + 1, ver + 1, G ++ [⟨0, false, 48, 2, [.flt .f32 (some (ix (ix ls n) j)), .int .i64 ((2 ^ n : Nat) : Int)]⟩]) (by simp only; omega) (by simp only; omega) ?_ ?_
        · simp only [junkAll, setAll, List.foldl_cons, List.foldl_nil, List.set_cons_succ, List.set_cons_zero, JL, true_or, or_true, and_true, true_and, reduceCtorEq, false_or, or_false, LV.int.injEq, LV.bool.injEq, LV.flt.injEq, LV.sl.injEq, LV.ptr.injEq, eq_self, Int.natCast_add, Int.natCast_one, Int.natCast_zero, Int.ofNat_zero]
        · simp only [hat, fl_app]; rfl
      · repeat' (first
          | ((with_reducible refine hK _ _ ?_); clear hK K)
          | ((first | (with_reducible show AOp _ _ _ _ _ _ _)); simp (disch := first | ((with_reducible show liveO _ _ _ = true); first | assumption | (exact liveO_setS (by assumption)) | (exact PtL.live (by assumption)) | (exact PtL.liveA (by assumption) _) | (simp only [go_sem]; done)) | omega | assumption | rfl | (simp only [go_sem]; first | done | omega)) only [go_sem, reduceIte, reduceCtorEq, Nat.reduceAdd, Nat.reduceMul, Nat.reduceSub, Nat.reduceLeDiff, Nat.lt_irrefl, Nat.reduceLT, Nat.reduceEqDiff, Nat.reduceBEq, Int.reduceLE, Int.reduceLT, Int.reduceToNat, w64, eq_self, hll, h.idxA, h.ldxA, hi.lenm])
          | (with_reducible refine AW_seq (fun K hK => ?_))
          | (with_reducible refine AW_region tyOk ?_)
          | (with_reducible refine AOps_cons (fun K hK => ?_))
          | ((with_reducible refine AOps_nil ?_); try simp only [thenA, blockA, if_true, if_false, reduceIte, Nat.reduceEqDiff, reduceCtorEq])
          | (with_reducible refine AW_block ?_)
          | ((first | (with_reducible refine AW_ret ?_) | (with_reducible refine AW_skip ?_) | (with_reducible refine AW_exit ?_)); try simp only [thenA, blockA, if_true, if_false, reduceIte, Nat.reduceEqDiff, reduceCtorEq])
          | ((with_reducible show AW _ _ (.cond _ _ _) _ _ _); refine AW_cond rfl (fun hg => ?_) (fun hg => ?_) <;> first | (exfalso; simp only [reduceCtorEq] at hg; done) | ((try simp only [Bool.not_eq_true', Bool.not_eq_false', decide_eq_true_eq, decide_eq_false_iff_not] at hg); try (exfalso; omega)))
          | ((with_reducible show _ ∧ _); refine And.intro (fun hg => ?_) (fun hg => ?_) <;> (try simp only [Bool.not_eq_true', Bool.not_eq_false'] at hg) <;> simp only [hg] <;> (try simp only [decide_eq_true_eq, decide_eq_false_iff_not] at hg) <;> (try (exfalso; omega)))
          | (clear hK K)
          | fail)
        have hje : j = (ix ls n).length := by omega
        have hDe : D = lqL ls (n + 1) := by rw [← hD, hje, List.take_length]; rfl
        refine hK _ _ (n + 1, ver, G) (by simp only; omega) (by simp only; omega) ?_ ?_
        · simp only [junkAll, setAll, List.foldl_cons, List.foldl_nil, List.set_cons_succ, List.set_cons_zero, JL, true_or, or_true, and_true, true_and, reduceCtorEq, false_or, or_false, LV.int.injEq, LV.bool.injEq, LV.flt.injEq, LV.sl.injEq, LV.ptr.injEq, eq_self, Int.natCast_add, Int.natCast_one, Int.natCast_zero, Int.ofNat_zero]
          exact ⟨by rw [← hDe, hDl], by rw [List.length_map]⟩
        · simp only [hDe]
    · have hne : n = ls.length := by omega
      have hin := lqL_in ls n (by omega)
      obtain ⟨D, hD⟩ : ∃ D, lqL ls n = D := ⟨_, rfl⟩
      have hS0 : srt kP D = lqS (lqW (ls.map fun ws => ws.map some)) := by rw [lqW_map, ← hD, hne]; rfl
      rw [hD] at hfl hln hin ⊢
      have hsort := fun G => (SortStableW_c cmpP_ok (H.length + 1) ver 48 D.length D (H ++ (⟨0, false, 29, 3, [.int .i64 r, .int .i64 s, v]⟩ :: ⟨ver, false, 48, 2, fl Fp D⟩ :: G)) ((hp_getj _ _ _).trans rfl) rfl (by omega)).mono (Q' := fun r' H' => r' = .tup [] ∧ H' = H ++ (⟨0, false, 29, 3, [.int .i64 r, .int .i64 s, v]⟩ :: ⟨ver, false, 48, 2, fl Fp (srt kP D)⟩ :: G)) fun r' H' hh => ⟨hh.1, by rw [hh.2, hp_setj]; rfl⟩
      have hSl : (srt kP D).length = D.length := srt_len
      have hSin : ∀ p ∈ srt kP D, 0 ≤ p.2 ∧ p.2 ≤ 65536 := fun p hp => hin p (mem_srt.1 hp)
      have hR : lqG (ls.map fun ws => ws.map some) (some z) = lqF (placeI z c) (srt kP D) 0 := by unfold lqG; rw [hS0, hc]; rfl
      obtain ⟨S, hS⟩ : ∃ S, srt kP D = S := ⟨_, rfl⟩
      simp only [hS] at hSl hSin hsort hR
      rw [hR]
      obtain ⟨k, hk⟩ : ∃ k, placeI z c = k := ⟨_, rfl⟩
      simp only [hk] at hp1 ⊢
      obtain ⟨R, hRe⟩ : ∃ R, lqF k S 0 = R := ⟨_, rfl⟩
      rw [hRe]
      repeat' (first
        | ((with_reducible refine hK _ _ ?_); clear hK K)
        | ((first | (with_reducible show AOp _ _ _ _ _ _ _)); simp (disch := first | ((with_reducible show liveO _ _ _ = true); first | assumption | (exact liveO_setS (by assumption)) | (exact PtL.live (by assumption)) | (exact PtL.liveA (by assumption) _) | (simp only [go_sem]; done)) | omega | assumption | rfl | (simp only [go_sem]; first | done | omega)) only [go_sem, reduceIte, reduceCtorEq, Nat.reduceAdd, Nat.reduceMul, Nat.reduceSub, Nat.reduceLeDiff, Nat.lt_irrefl, Nat.reduceLT, Nat.reduceEqDiff, Nat.reduceBEq, Int.reduceLE, Int.reduceLT, Int.reduceToNat, w64, eq_self, hll])
        | (with_reducible refine AW_seq (fun K hK => ?_))
        | (with_reducible refine AW_region tyOk ?_)
        | (with_reducible refine AOps_cons (fun K hK => ?_))
        | ((with_reducible refine AOps_nil ?_); try simp only [thenA, blockA, if_true, if_false, reduceIte, Nat.reduceEqDiff, reduceCtorEq])
        | (with_reducible refine AW_block ?_)
        | ((first | (with_reducible refine AW_ret ?_) | (with_reducible refine AW_skip ?_) | (with_reducible refine AW_exit ?_)); try simp only [thenA, blockA, if_true, if_false, reduceIte, Nat.reduceEqDiff, reduceCtorEq])
        | ((with_reducible show AW _ _ (.cond _ _ _) _ _ _); refine AW_cond rfl (fun hg => ?_) (fun hg => ?_) <;> first | (exfalso; simp only [reduceCtorEq] at hg; done) | ((try simp only [Bool.not_eq_true', Bool.not_eq_false', decide_eq_true_eq, decide_eq_false_iff_not] at hg); try (exfalso; omega)))
        | ((with_reducible show _ ∧ _); refine And.intro (fun hg => ?_) (fun hg => ?_) <;> (try simp only [Bool.not_eq_true', Bool.not_eq_false'] at hg) <;> simp only [hg] <;> (try simp only [decide_eq_true_eq, decide_eq_false_iff_not] at hg) <;> (try (exfalso; omega)))
        | ((with_reducible apply FunH_intro); (first | exact hsort _ | exact hp1 _ | exact iLevelsCount_c _ _ _ _ _ _ (by first | assumption | exact RdL.app (by assumption) _ | exact RdL_hj rfl (by simp) | exact RdL_h0 rfl (by simp) | exact RdL_nil | exact RdL_emp) (by first | assumption | exact RdLL.app (by assumption) _) (by first | assumption | omega | (simp; omega) | (simp; done)) | exact isShare_c _ _ | exact SortStableW_c _ _ _ _ _ _ _ (by first | assumption | exact (hp_getj _ _ _).trans rfl | exact (hp_get0 _ _).trans rfl) (by first | rfl | assumption | omega | (simp; done)) (by first | assumption | omega | (simp; omega) | (simp; done)) | exact iplace_c _ _ _ _ (by first | assumption | omega | (simp; omega) | (simp; done)) (by first | assumption | omega | (simp; omega) | (simp; done))))
        | (clear hK K)
        | fail)
      refine AW_loopV [4, 5, 14, 16, 64, 65, 66, 67, 68, 69, 70, 71, 72, 73, 74, 75, 76, 77] (fun p : Nat × Int × Hp => [(14, .int .i64 p.2.1), (64, .int .i64 (p.1 : Nat))]) (fun p => H ++ (⟨0, false, 29, 3, [.int .i64 r, .int .i64 s, v]⟩ :: ⟨ver, false, 48, 2, fl Fp S⟩ :: p.2.2)) (fun p => p.1 ≤ S.length ∧ lqF k (S.drop p.1) p.2.1 = R ∧ 0 ≤ p.2.1 ∧ p.2.1 ≤ 65536 * (p.1 : Int)) (fun p => S.length - p.1) (0, 0, G) ⟨Nat.zero_le _, hRe, Int.le_refl _, Int.le_refl _⟩ ?_ rfl ?_
      · simp only [junkAll, setAll, List.foldl_cons, List.foldl_nil, List.set_cons_succ, List.set_cons_zero, JL, true_or, or_true, and_true, true_and, reduceCtorEq, false_or, or_false, LV.int.injEq, LV.bool.injEq, LV.flt.injEq, LV.sl.injEq, LV.ptr.injEq, eq_self, Int.natCast_add, Int.natCast_one, Int.natCast_zero, Int.ofNat_zero]
      intro ⟨i, sum, G⟩ ⟨hi, hF, hs0, hs1⟩ K hK
      simp only at hi hF hs0 hs1
      simp only [junkAll, setAll, List.foldl_cons, List.foldl_nil, List.set_cons_succ, List.set_cons_zero]
      by_cases hiS : i < S.length
      · have hwi := hSin _ (ix_mem S i hiS)
        rw [drop_ix S i hiS, lqF] at hF
        have hgw : ∀ G, hgets (H ++ (⟨0, false, 29, 3, [.int .i64 r, .int .i64 s, v]⟩ :: ⟨ver, false, 48, 2, fl Fp S⟩ :: G)) (H.length + 1) ver (i * 2) 2 = some (Fp (ix S i)) := fun G => hgetsWj Fp_len rfl hiS
        obtain ⟨⟨w, m⟩, hx⟩ : ∃ p, ix S i = p := ⟨_, rfl⟩
        rw [hx] at hgw
        rw [hx] at hF hwi
        simp only at hF hwi
        by_cases hkm : k ≤ sum + m
        · rw [if_pos hkm] at hF
          repeat' (first
            | ((with_reducible refine hK _ _ ?_); clear hK K)
            | ((first | (with_reducible show AOp _ _ _ _ _ _ _)); simp (disch := first | ((with_reducible show liveO _ _ _ = true); first | assumption | (exact liveO_setS (by assumption)) | (exact PtL.live (by assumption)) | (exact PtL.liveA (by assumption) _) | (simp only [go_sem]; done)) | omega | assumption | rfl | (simp only [go_sem]; first | done | omega)) only [go_sem, reduceIte, reduceCtorEq, Nat.reduceAdd, Nat.reduceMul, Nat.reduceSub, Nat.reduceLeDiff, Nat.lt_irrefl, Nat.reduceLT, Nat.reduceEqDiff, Nat.reduceBEq, Int.reduceLE, Int.reduceLT, Int.reduceToNat, w64, eq_self, hgw, Fp])
            | (with_reducible refine AW_seq (fun K hK => ?_))
            | (with_reducible refine AW_region tyOk ?_)
            | (with_reducible refine AOps_cons (fun K hK => ?_))
            | ((with_reducible refine AOps_nil ?_); try simp only [thenA, blockA, if_true, if_false, reduceIte, Nat.reduceEqDiff, reduceCtorEq])
            | (with_reducible refine AW_block ?_)
            | ((first | (with_reducible refine AW_ret ?_) | (with_reducible refine AW_skip ?_) | (with_reducible refine AW_exit ?_)); try simp only [thenA, blockA, if_true, if_false, reduceIte, Nat.reduceEqDiff, reduceCtorEq])
            | ((with_reducible show AW _ _ (.cond _ _ _) _ _ _); refine AW_cond rfl (fun hg => ?_) (fun hg => ?_) <;> first | (exfalso; simp only [reduceCtorEq] at hg; done) | ((try simp only [Bool.not_eq_true', Bool.not_eq_false', decide_eq_true_eq, decide_eq_false_iff_not] at hg); try (exfalso; omega)))
            | ((with_reducible show _ ∧ _); refine And.intro (fun hg => ?_) (fun hg => ?_) <;> (try simp only [Bool.not_eq_true', Bool.not_eq_false'] at hg) <;> simp only [hg] <;> (try simp only [decide_eq_true_eq, decide_eq_false_iff_not] at hg) <;> (try (exfalso; omega)))
            | (clear hK K)
            | fail)
          all_goals (refine EndA_cut hcl (by first | exact Or.inr rfl | exact Or.inl rfl) (by simp only [Try.results9, resA, aresL, go_sem, reduceIte, reduceCtorEq, Nat.reduceAdd, Nat.reduceMul, Nat.reduceSub, Nat.reduceLeDiff, Nat.lt_irrefl, Nat.reduceLT, Nat.reduceEqDiff, Nat.reduceBEq, Int.reduceLE, Int.reduceLT, Int.reduceToNat, w64, eq_self] <;> rfl) rfl ?_)
          all_goals exact ⟨by rw [hR, hk, hRe, ← hF]; rfl, rfl⟩
        · rw [if_neg hkm] at hF
          repeat' (first
            | ((with_reducible refine hK _ _ ?_); clear hK K)
            | ((first | (with_reducible show AOp _ _ _ _ _ _ _)); simp (disch := first | ((with_reducible show liveO _ _ _ = true); first | assumption | (exact liveO_setS (by assumption)) | (exact PtL.live (by assumption)) | (exact PtL.liveA (by assumption) _) | (simp only [go_sem]; done)) | omega | assumption | rfl | (simp only [go_sem]; first | done | omega)) only [go_sem, reduceIte, reduceCtorEq, Nat.reduceAdd, Nat.reduceMul, Nat.reduceSub, Nat.reduceLeDiff, Nat.lt_irrefl, Nat.reduceLT, Nat.reduceEqDiff, Nat.reduceBEq, Int.reduceLE, Int.reduceLT, Int.reduceToNat, w64, eq_self, hgw, Fp])
            | (with_reducible refine AW_seq (fun K hK => ?_))
            | (with_reducible refine AW_region tyOk ?_)
            | (with_reducible refine AOps_cons (fun K hK => ?_))
            | ((with_reducible refine AOps_nil ?_); try simp only [thenA, blockA, if_true, if_false, reduceIte, Nat.reduceEqDiff, reduceCtorEq])
            | (with_reducible refine AW_block ?_)
            | ((first | (with_reducible refine AW_ret ?_) | (with_reducible refine AW_skip ?_) | (with_reducible refine AW_exit ?_)); try simp only [thenA, blockA, if_true, if_false, reduceIte, Nat.reduceEqDiff, reduceCtorEq])
            | ((with_reducible show AW _ _ (.cond _ _ _) _ _ _); refine AW_cond rfl (fun hg => ?_) (fun hg => ?_) <;> first | (exfalso; simp only [reduceCtorEq] at hg; done) | ((try simp only [Bool.not_eq_true', Bool.not_eq_false', decide_eq_true_eq, decide_eq_false_iff_not] at hg); try (exfalso; omega)))
            | ((with_reducible show _ ∧ _); refine And.intro (fun hg => ?_) (fun hg => ?_) <;> (try simp only [Bool.not_eq_true', Bool.not_eq_false'] at hg) <;> simp only [hg] <;> (try simp only [decide_eq_true_eq, decide_eq_false_iff_not] at hg) <;> (try (exfalso; omega)))
            | (clear hK K)
            | fail)
          refine hK _ _ (i + 1, sum + m, _) ⟨by simp only; omega, hF, by simp only; omega, by simp only; omega⟩ (by simp only; omega) ?_ rfl
          simp only [junkAll, setAll, List.foldl_cons, List.foldl_nil, List.set_cons_succ, List.set_cons_zero, JL, true_or, or_true, and_true, true_and, reduceCtorEq, false_or, or_false, LV.int.injEq, LV.bool.injEq, LV.flt.injEq, LV.sl.injEq, LV.ptr.injEq, eq_self, Int.natCast_add, Int.natCast_one, Int.natCast_zero, Int.ofNat_zero]
      · repeat' (first
          | ((with_reducible refine hK _ _ ?_); clear hK K)
          | ((first | (with_reducible show AOp _ _ _ _ _ _ _)); simp (disch := first | ((with_reducible show liveO _ _ _ = true); first | assumption | (exact liveO_setS (by assumption)) | (exact PtL.live (by assumption)) | (exact PtL.liveA (by assumption) _) | (simp only [go_sem]; done)) | omega | assumption | rfl | (simp only [go_sem]; first | done | omega)) only [go_sem, reduceIte, reduceCtorEq, Nat.reduceAdd, Nat.reduceMul, Nat.reduceSub, Nat.reduceLeDiff, Nat.lt_irrefl, Nat.reduceLT, Nat.reduceEqDiff, Nat.reduceBEq, Int.reduceLE, Int.reduceLT, Int.reduceToNat, w64, eq_self])
          | (with_reducible refine AW_seq (fun K hK => ?_))
          | (with_reducible refine AW_region tyOk ?_)
          | (with_reducible refine AOps_cons (fun K hK => ?_))
          | ((with_reducible refine AOps_nil ?_); try simp only [thenA, blockA, if_true, if_false, reduceIte, Nat.reduceEqDiff, reduceCtorEq])
          | (with_reducible refine AW_block ?_)
          | ((first | (with_reducible refine AW_ret ?_) | (with_reducible refine AW_skip ?_) | (with_reducible refine AW_exit ?_)); try simp only [thenA, blockA, if_true, if_false, reduceIte, Nat.reduceEqDiff, reduceCtorEq])
          | ((with_reducible show AW _ _ (.cond _ _ _) _ _ _); refine AW_cond rfl (fun hg => ?_) (fun hg => ?_) <;> first | (exfalso; simp only [reduceCtorEq] at hg; done) | ((try simp only [Bool.not_eq_true', Bool.not_eq_false', decide_eq_true_eq, decide_eq_false_iff_not] at hg); try (exfalso; omega)))
          | ((with_reducible show _ ∧ _); refine And.intro (fun hg => ?_) (fun hg => ?_) <;> (try simp only [Bool.not_eq_true', Bool.not_eq_false'] at hg) <;> simp only [hg] <;> (try simp only [decide_eq_true_eq, decide_eq_false_iff_not] at hg) <;> (try (exfalso; omega)))
          | (clear hK K)
          | fail)
        rw [List.drop_of_length_le (by omega)] at hF
        all_goals (refine EndA_cut hcl (by first | exact Or.inr rfl | exact Or.inl rfl) (by simp only [Try.results9, resA, aresL, go_sem, reduceIte, reduceCtorEq, Nat.reduceAdd, Nat.reduceMul, Nat.reduceSub, Nat.reduceLeDiff, Nat.lt_irrefl, Nat.reduceLT, Nat.reduceEqDiff, Nat.reduceBEq, Int.reduceLE, Int.reduceLT, Int.reduceToNat, w64, eq_self] <;> rfl) rfl ?_)
        all_goals exact ⟨by rw [hR, hk, hRe, ← hF]; rfl, rfl⟩
end Go.Proofs.Yteejnmgjjefbiaa
