/- Tuples left out of a summary, in the abstract machine: the program's side. -/
import Derived.Test.YtkkcfbpgcekmjaaEa
import Derived.Test.YtkkcfbpgcekmjaaZn
namespace Go.Proofs.Ytkkcfbpgcekmjaa
open Go.RowKit
set_option linter.unusedSimpArgs false
set_option linter.unusedVariables false
set_option maxRecDepth 100000

/-! Four objects of a heap, each written. -/
structure Dist (H : Hp) (a b c p : Nat) : Prop where
  la : a < H.length
  lb : b < H.length
  lc : c < H.length
  lp : p < H.length
  ab : a ≠ b
  ac : a ≠ c
  ap : a ≠ p
  bc : b ≠ c
  bp : b ≠ p
  cp : c ≠ p
def G4 (H : Hp) (a b c p : Nat) (A B C P : AO) : Hp := (((H.set a A).set b B).set c C).set p P
section
variable {H : Hp} {a b c p : Nat} {A B C P X : AO}
theorem G4.ga (D : Dist H a b c p) : (G4 H a b c p A B C P)[a]? = some A := by
  unfold G4; rw [List.getElem?_set_ne (Ne.symm D.ap), List.getElem?_set_ne (Ne.symm D.ac), List.getElem?_set_ne (Ne.symm D.ab), List.getElem?_set_self D.la]
theorem G4.gb (D : Dist H a b c p) : (G4 H a b c p A B C P)[b]? = some B := by
  unfold G4; rw [List.getElem?_set_ne (Ne.symm D.bp), List.getElem?_set_ne (Ne.symm D.bc), List.getElem?_set_self (by simpa using D.lb)]
theorem G4.gc (D : Dist H a b c p) : (G4 H a b c p A B C P)[c]? = some C := by
  unfold G4; rw [List.getElem?_set_ne (Ne.symm D.cp), List.getElem?_set_self (by simpa using D.lc)]
theorem G4.gp (D : Dist H a b c p) : (G4 H a b c p A B C P)[p]? = some P := by
  unfold G4; rw [List.getElem?_set_self (by simpa using D.lp)]
theorem G4.sp (D : Dist H a b c p) : (G4 H a b c p A B C P).set p X = G4 H a b c p A B C X := by unfold G4; rw [List.set_set]
theorem G4.sc (D : Dist H a b c p) : (G4 H a b c p A B C P).set c X = G4 H a b c p A B X P := by unfold G4; rw [List.set_comm _ _ (Ne.symm D.cp), List.set_set]
theorem G4.sb (D : Dist H a b c p) : (G4 H a b c p A B C P).set b X = G4 H a b c p A X C P := by
  unfold G4; rw [List.set_comm _ _ (Ne.symm D.bp), List.set_comm _ _ (Ne.symm D.bc), List.set_set]
theorem G4.sa (D : Dist H a b c p) : (G4 H a b c p A B C P).set a X = G4 H a b c p X B C P := by
  unfold G4; rw [List.set_comm _ _ (Ne.symm D.ap), List.set_comm _ _ (Ne.symm D.ac), List.set_comm _ _ (Ne.symm D.ab), List.set_set]
theorem G4.self (ha : H[a]? = some A) (hb : H[b]? = some B) (hc : H[c]? = some C) (hp : H[p]? = some P) : H = G4 H a b c p A B C P := by
  unfold G4; rw [set_self ha, set_self hb, set_self hc, set_self hp]
end
theorem hget_at {H : Hp} {id ver el sz off : Nat} {ro : Bool} {cs : List LV} (h : H[id]? = some ⟨ver, ro, el, sz, cs⟩) : hget H id ver off = cs[off]? := by simp [hget, h]
theorem liveO_at {H : Hp} {id ver el sz : Nat} {ro : Bool} {cs : List LV} (h : H[id]? = some ⟨ver, ro, el, sz, cs⟩) : liveO H id ver = true := by simp [liveO, h]
theorem hputA_at {H : Hp} {id ver el sz off : Nat} {cs ys : List LV} (h : H[id]? = some ⟨ver, false, el, sz, cs⟩) (h1 : off + ys.length ≤ cs.length) : hput H id ver off ys = some (H.set id ⟨ver, false, el, sz, sets cs off ys⟩) := by
  simp [hput, h, h1]
/-! A tuple of the middle taken out. -/
theorem del_mid {α : Type} (f : Tp → α) (pre r : List Tp) (t b : Tp) (i : Nat) (h : pre.length = i) : ((pre ++ t :: b :: r).map f).take i ++ ((pre ++ t :: b :: r).map f).drop (i + 1) = (pre ++ b :: r).map f := by
  subst h
  have e : (pre ++ t :: b :: r).map f = pre.map f ++ (f t :: f b :: r.map f) := by simp
  rw [e, List.take_left' (by simp), show pre.length + 1 = (pre.map f ++ [f t]).length by simp, show pre.map f ++ (f t :: f b :: r.map f) = (pre.map f ++ [f t]) ++ (f b :: r.map f) by simp, List.drop_left]
  simp
theorem sqAt_mem {room B : Int} {L : List Tp} (hT : TB B L) (i : Nat) : ∀ x ∈ sqAt room L i, 0 ≤ tg x ∧ tg x ≤ B ∧ 0 ≤ ts x ∧ ts x ≤ B := by
  intro x hx
  unfold sqAt at hx
  rcases List.mem_append.1 hx with hx | hx
  · have hm := List.mem_of_mem_take hx
    exact ⟨hT.1 x hm, hT.mem x hm, (hT.2.1 x hm).1, (hT.2.1 x hm).2⟩
  · have hS := (hT.drop (i + 1)).sqF (room := room)
    exact ⟨hS.1 x hx, hS.mem x hx, (hS.2.1 x hx).1, (hS.2.1 x hx).2⟩
theorem sqAt_len (room : Int) (L : List Tp) (i : Nat) : (sqAt room L i).length ≤ L.length := by
  unfold sqAt
  have := sqF_len (room := room) (L.drop (i + 1))
  rw [List.length_append, List.length_take]
  rw [List.length_drop] at this
  omega
def roomI (n cnt : Int) : Int := (2 * cnt).tdiv n
/-- The cells of the values, the gaps, the slacks, (k is not looked at). -/
def cV (k : Nat) (X : List Tp) : List LV := X.map (fun t => LV.flt .f32 (tv t))
def cG (k : Nat) (X : List Tp) : List LV := X.map (fun t => LV.int .i64 (tg t))
def cS (k : Nat) (X : List Tp) : List LV := X.map (fun t => LV.int .i64 (ts t))
theorem map_cell {f : Tp → LV} (h : ∀ t, (f t).isCell = true) (X : List Tp) : (X.map f).all LV.isCell = true := by
  rw [List.all_eq_true]; intro x hx; obtain ⟨t, _, rfl⟩ := List.mem_map.1 hx; exact h t
set_option maxHeartbeats 8000000 in
theorem squeeze_c (p a b c vp va vb vc : Nat) (n cnt : Int) (L : List Tp) (H : Hp) (D : Dist H a b c p)
    (hP : H[p]? = some ⟨vp, false, 27, 5, [.int .i64 n, .int .i64 cnt, .sl a va 0 L.length none, .sl b vb 0 L.length none, .sl c vc 0 L.length none]⟩)
    (hA : H[a]? = some ⟨va, false, 37, 1, L.map fun t => LV.flt .f32 (tv t)⟩) (hB : H[b]? = some ⟨vb, false, 2, 1, L.map fun t => LV.int .i64 (tg t)⟩) (hC : H[c]? = some ⟨vc, false, 2, 1, L.map fun t => LV.int .i64 (ts t)⟩)
    (hn : 2 ≤ n ∧ n ≤ 1000) (hcnt : 0 ≤ cnt ∧ cnt ≤ 3000000) (hL : L.length ≤ 1000) (hT : TB 3000000 L) :
    FunH Try.prog 201 [.ptr p vp 0] H fun r H' => r = .tup [] ∧ H' = G4 H a b c p ⟨va, false, 37, 1, cV L.length (sqz (roomI n cnt) L)⟩ ⟨vb, false, 2, 1, cG L.length (sqz (roomI n cnt) L)⟩ ⟨vc, false, 2, 1, cS L.length (sqz (roomI n cnt) L)⟩
      ⟨vp, false, 27, 5, [.int .i64 n, .int .i64 cnt, .sl a va 0 (sqz (roomI n cnt) L).length none, .sl b vb 0 (sqz (roomI n cnt) L).length none, .sl c vc 0 (sqz (roomI n cnt) L).length none]⟩ := by
  have hp : PtL H p vp [.int .i64 n, .int .i64 cnt, .sl a va 0 L.length none, .sl b vb 0 L.length none, .sl c vc 0 L.length none] := ⟨_, _, _, hP⟩
  have hn0 : ¬ n = 0 := by omega
  have hroom : (2 * cnt).tdiv n = roomI n cnt := rfl
  have hq0 : 0 ≤ (2 * cnt).tdiv n := Int.tdiv_nonneg (by omega) (by omega)
  have hq1 : (2 * cnt).tdiv n ≤ 2 * cnt := Int.tdiv_le_self _ (by omega)
  obtain ⟨room, hr⟩ : ∃ room, roomI n cnt = room := ⟨_, rfl⟩
  rw [hr] at hroom ⊢
  rw [hroom] at hq0 hq1
  have e0 : ∀ X : List Tp, X.length = L.length → cV L.length X = (X.map fun t => LV.flt .f32 (tv t)) ∧ cG L.length X = (X.map fun t => LV.int .i64 (tg t)) ∧ cS L.length X = (X.map fun t => LV.int .i64 (ts t)) := fun X hX => by
    exact ⟨rfl, rfl, rfl⟩
  obtain ⟨e1, e2, e3⟩ := e0 L rfl
  rw [← e1] at hA
  rw [← e2] at hB
  rw [← e3] at hC
  have hself := G4.self hA hB hC hP
  by_cases h2 : L.length < 2
  · have hs : sqz room L = L := by rw [← sqAt_end, sqAt_start (by omega)]
    rw [hs]
    (refine FunH_body tyOk Try.func201 rfl (by kernel_rfl) Try.ntmps201 (fun hcl hbd => ?_); simp only [List.length_cons, List.length_nil, Nat.reduceAdd, Nat.reduceSub, List.replicate, List.cons_append, List.nil_append])
    repeat' (first
      | ((with_reducible refine hK _ _ ?_); clear hK K)
      | ((with_reducible refine hK _ ?_); clear hK K; try simp only [])
      | ((first | (with_reducible show AOp _ _ _ _ _ _ _) | (with_reducible show AQOp _ _ _ _ _ _ _)); simp (disch := first | ((with_reducible show liveO _ _ _ = true); first | assumption | (exact liveO_at (G4.gp D)) | (exact liveO_at (G4.gb D)) | (exact liveO_at (G4.gc D)) | (exact liveO_at (G4.ga D)) | (exact liveO_setS (by assumption)) | (exact PtL.live (by assumption)) | (exact PtL.liveA (by assumption) _) | (simp only [go_sem]; done)) | omega | assumption | rfl | (simp only [go_sem]; first | done | omega)) only [go_sem, reduceIte, reduceCtorEq, Nat.reduceAdd, Nat.reduceMul, Nat.reduceSub, Nat.reduceLeDiff, Nat.lt_irrefl, Nat.reduceLT, Nat.reduceEqDiff, Nat.reduceBEq, Int.reduceLE, Int.reduceLT, Int.reduceToNat, w64, eq_self, hp.get, hn0, hroom])
      | (with_reducible refine AW_seq (fun K hK => ?_))
      | (with_reducible refine AW_region tyOk ?_)
      | ((with_reducible refine AW_quiet (id := 0) tyOk ?_ ?_ ?_); (kernel_rfl); (kernel_rfl))
      | ((with_reducible refine AW_quiet (id := 4) tyOk ?_ ?_ ?_); (kernel_rfl); (kernel_rfl))
      | ((with_reducible refine AW_drawn (id := 5) tyOk 17 ?_ ?_ ?_); (kernel_rfl); (kernel_rfl); simp only [List.take_succ_cons, List.take_zero, List.drop_succ_cons, List.drop_zero])
      | (with_reducible refine AOps_cons (fun K hK => ?_))
      | (with_reducible refine AQOps_cons (fun K hK => ?_))
      | ((with_reducible refine AQOps_nil ?_); try simp only [thenA, blockA, if_true, if_false, reduceIte, Nat.reduceEqDiff, reduceCtorEq])
      | ((with_reducible refine AOps_nil ?_); try simp only [thenA, blockA, if_true, if_false, reduceIte, Nat.reduceEqDiff, reduceCtorEq])
      | (with_reducible refine AW_block ?_)
      | ((first | (with_reducible refine AW_ret ?_) | (with_reducible refine AW_skip ?_) | (with_reducible refine AW_exit ?_)); try simp only [thenA, blockA, if_true, if_false, reduceIte, Nat.reduceEqDiff, reduceCtorEq])
      | ((with_reducible show AW _ _ (.cond _ _ _) _ _ _); refine AW_cond rfl (fun hg => ?_) (fun hg => ?_) <;> first | (exfalso; simp only [reduceCtorEq] at hg; done) | ((try simp only [Bool.not_eq_true', Bool.not_eq_false', decide_eq_true_eq, decide_eq_false_iff_not] at hg); try (exfalso; omega)))
      | ((with_reducible show _ ∧ _); refine And.intro (fun hg => ?_) (fun hg => ?_) <;> (try simp only [Bool.not_eq_true', Bool.not_eq_false'] at hg) <;> simp only [hg] <;> (try simp only [decide_eq_true_eq, decide_eq_false_iff_not] at hg) <;> (try (exfalso; omega)))
      | ((first | (with_reducible apply FunH_intro) | (with_reducible apply AQ_intro)); (first | exact Delete_float32_c _ _ _ _ _ _ (by first | assumption | exact (hp_getj _ _ _).trans rfl | exact (hp_get0 _ _).trans rfl) (by first | rfl | assumption | omega | (simp; done)) (by first | assumption | omega | (simp; omega) | (simp; done)) (by first | assumption | omega | (simp; omega) | (simp; done)) (by first | rfl | assumption | omega | (simp; done)) | exact Delete_int64_c _ _ _ _ _ _ (by first | assumption | exact (hp_getj _ _ _).trans rfl | exact (hp_get0 _ _).trans rfl) (by first | rfl | assumption | omega | (simp; done)) (by first | assumption | omega | (simp; omega) | (simp; done)) (by first | assumption | omega | (simp; omega) | (simp; done)) (by first | rfl | assumption | omega | (simp; done))))
      | (clear hK K)
      | fail)
    refine AW_loopV [3, 20, 21, 22, 23, 24, 25, 26, 27, 28, 29, 30, 31, 32, 33, 34, 35, 36, 37, 38, 39, 40, 41, 42, 43, 44, 45, 46, 47, 48, 49, 50, 51, 52, 53, 54, 55, 56, 57, 58, 59, 60, 61, 62, 63, 64, 65, 66, 67, 68, 69, 70, 71, 72, 73, 74, 75, 76, 77, 78, 79, 80, 81, 82, 83, 84, 85, 86, 87, 88, 89, 90, 91, 92, 93, 94, 95, 96, 97, 98, 99, 100] (fun _ : Nat => [(3, .int .i64 (((L.length : Nat) : Int) - 2))]) (fun _ => H) (fun _ => True) (fun k => k) 0 trivial ?_ rfl ?_
    · simp only [junkAll, setAll, List.foldl_cons, List.foldl_nil, List.set_cons_succ, List.set_cons_zero, JL, true_or, or_true, and_true, true_and, reduceCtorEq, false_or, or_false, LV.int.injEq, LV.bool.injEq, LV.flt.injEq, LV.sl.injEq, LV.ptr.injEq, eq_self, Int.natCast_add, Int.natCast_one, Int.natCast_zero, Int.ofNat_zero]
    · intro k _ K hK
      simp only [junkAll, setAll, List.foldl_cons, List.foldl_nil, List.set_cons_succ, List.set_cons_zero]
      repeat' (first
        | ((with_reducible refine hK _ _ ?_); clear hK K)
        | ((with_reducible refine hK _ ?_); clear hK K; try simp only [])
        | ((first | (with_reducible show AOp _ _ _ _ _ _ _) | (with_reducible show AQOp _ _ _ _ _ _ _)); simp (disch := first | ((with_reducible show liveO _ _ _ = true); first | assumption | (exact liveO_at (G4.gp D)) | (exact liveO_at (G4.gb D)) | (exact liveO_at (G4.gc D)) | (exact liveO_at (G4.ga D)) | (exact liveO_setS (by assumption)) | (exact PtL.live (by assumption)) | (exact PtL.liveA (by assumption) _) | (simp only [go_sem]; done)) | omega | assumption | rfl | (simp only [go_sem]; first | done | omega)) only [go_sem, reduceIte, reduceCtorEq, Nat.reduceAdd, Nat.reduceMul, Nat.reduceSub, Nat.reduceLeDiff, Nat.lt_irrefl, Nat.reduceLT, Nat.reduceEqDiff, Nat.reduceBEq, Int.reduceLE, Int.reduceLT, Int.reduceToNat, w64, eq_self])
        | (with_reducible refine AW_seq (fun K hK => ?_))
        | (with_reducible refine AW_region tyOk ?_)
        | ((with_reducible refine AW_quiet (id := 0) tyOk ?_ ?_ ?_); (kernel_rfl); (kernel_rfl))
        | ((with_reducible refine AW_quiet (id := 4) tyOk ?_ ?_ ?_); (kernel_rfl); (kernel_rfl))
        | ((with_reducible refine AW_drawn (id := 5) tyOk 17 ?_ ?_ ?_); (kernel_rfl); (kernel_rfl); simp only [List.take_succ_cons, List.take_zero, List.drop_succ_cons, List.drop_zero])
        | (with_reducible refine AOps_cons (fun K hK => ?_))
        | (with_reducible refine AQOps_cons (fun K hK => ?_))
        | ((with_reducible refine AQOps_nil ?_); try simp only [thenA, blockA, if_true, if_false, reduceIte, Nat.reduceEqDiff, reduceCtorEq])
        | ((with_reducible refine AOps_nil ?_); try simp only [thenA, blockA, if_true, if_false, reduceIte, Nat.reduceEqDiff, reduceCtorEq])
        | (with_reducible refine AW_block ?_)
        | ((first | (with_reducible refine AW_ret ?_) | (with_reducible refine AW_skip ?_) | (with_reducible refine AW_exit ?_)); try simp only [thenA, blockA, if_true, if_false, reduceIte, Nat.reduceEqDiff, reduceCtorEq])
        | ((with_reducible show AW _ _ (.cond _ _ _) _ _ _); refine AW_cond rfl (fun hg => ?_) (fun hg => ?_) <;> first | (exfalso; simp only [reduceCtorEq] at hg; done) | ((try simp only [Bool.not_eq_true', Bool.not_eq_false', decide_eq_true_eq, decide_eq_false_iff_not] at hg); try (exfalso; omega)))
        | ((with_reducible show _ ∧ _); refine And.intro (fun hg => ?_) (fun hg => ?_) <;> (try simp only [Bool.not_eq_true', Bool.not_eq_false'] at hg) <;> simp only [hg] <;> (try simp only [decide_eq_true_eq, decide_eq_false_iff_not] at hg) <;> (try (exfalso; omega)))
        | ((first | (with_reducible apply FunH_intro) | (with_reducible apply AQ_intro)); (first | exact Delete_float32_c _ _ _ _ _ _ (by first | assumption | exact (hp_getj _ _ _).trans rfl | exact (hp_get0 _ _).trans rfl) (by first | rfl | assumption | omega | (simp; done)) (by first | assumption | omega | (simp; omega) | (simp; done)) (by first | assumption | omega | (simp; omega) | (simp; done)) (by first | rfl | assumption | omega | (simp; done)) | exact Delete_int64_c _ _ _ _ _ _ (by first | assumption | exact (hp_getj _ _ _).trans rfl | exact (hp_get0 _ _).trans rfl) (by first | rfl | assumption | omega | (simp; done)) (by first | assumption | omega | (simp; omega) | (simp; done)) (by first | assumption | omega | (simp; omega) | (simp; done)) (by first | rfl | assumption | omega | (simp; done))))
        | (clear hK K)
        | fail)
      all_goals (first | refine EndA_cut hcl (by first | exact Or.inr rfl | exact Or.inl rfl) (by simp only [Try.results201, resA, aresL, go_sem, reduceIte, reduceCtorEq, Nat.reduceAdd, Nat.reduceMul, Nat.reduceSub, Nat.reduceLeDiff, Nat.lt_irrefl, Nat.reduceLT, Nat.reduceEqDiff, Nat.reduceBEq, Int.reduceLE, Int.reduceLT, Int.reduceToNat, w64, eq_self] <;> rfl) rfl ?_ | refine EndA_same (by first | exact Or.inr rfl | exact Or.inl rfl) (by simp only [Try.results201, resA, aresL, go_sem, reduceIte, reduceCtorEq, Nat.reduceAdd, Nat.reduceMul, Nat.reduceSub, Nat.reduceLeDiff, Nat.lt_irrefl, Nat.reduceLT, Nat.reduceEqDiff, Nat.reduceBEq, Int.reduceLE, Int.reduceLT, Int.reduceToNat, w64, eq_self] <;> rfl) ?_)
      all_goals exact ⟨rfl, hself⟩
  (refine FunH_body tyOk Try.func201 rfl (by kernel_rfl) Try.ntmps201 (fun hcl hbd => ?_); simp only [List.length_cons, List.length_nil, Nat.reduceAdd, Nat.reduceSub, List.replicate, List.cons_append, List.nil_append])
  repeat' (first
    | ((with_reducible refine hK _ _ ?_); clear hK K)
    | ((with_reducible refine hK _ ?_); clear hK K; try simp only [])
    | ((first | (with_reducible show AOp _ _ _ _ _ _ _) | (with_reducible show AQOp _ _ _ _ _ _ _)); simp (disch := first | ((with_reducible show liveO _ _ _ = true); first | assumption | (exact liveO_at (G4.gp D)) | (exact liveO_at (G4.gb D)) | (exact liveO_at (G4.gc D)) | (exact liveO_at (G4.ga D)) | (exact liveO_setS (by assumption)) | (exact PtL.live (by assumption)) | (exact PtL.liveA (by assumption) _) | (simp only [go_sem]; done)) | omega | assumption | rfl | (simp only [go_sem]; first | done | omega)) only [go_sem, reduceIte, reduceCtorEq, Nat.reduceAdd, Nat.reduceMul, Nat.reduceSub, Nat.reduceLeDiff, Nat.lt_irrefl, Nat.reduceLT, Nat.reduceEqDiff, Nat.reduceBEq, Int.reduceLE, Int.reduceLT, Int.reduceToNat, w64, eq_self, hp.get, hn0, hroom])
    | (with_reducible refine AW_seq (fun K hK => ?_))
    | (with_reducible refine AW_region tyOk ?_)
    | ((with_reducible refine AW_quiet (id := 0) tyOk ?_ ?_ ?_); (kernel_rfl); (kernel_rfl))
    | ((with_reducible refine AW_quiet (id := 4) tyOk ?_ ?_ ?_); (kernel_rfl); (kernel_rfl))
    | ((with_reducible refine AW_drawn (id := 5) tyOk 17 ?_ ?_ ?_); (kernel_rfl); (kernel_rfl); simp only [List.take_succ_cons, List.take_zero, List.drop_succ_cons, List.drop_zero])
    | (with_reducible refine AOps_cons (fun K hK => ?_))
    | (with_reducible refine AQOps_cons (fun K hK => ?_))
    | ((with_reducible refine AQOps_nil ?_); try simp only [thenA, blockA, if_true, if_false, reduceIte, Nat.reduceEqDiff, reduceCtorEq])
    | ((with_reducible refine AOps_nil ?_); try simp only [thenA, blockA, if_true, if_false, reduceIte, Nat.reduceEqDiff, reduceCtorEq])
    | (with_reducible refine AW_block ?_)
    | ((first | (with_reducible refine AW_ret ?_) | (with_reducible refine AW_skip ?_) | (with_reducible refine AW_exit ?_)); try simp only [thenA, blockA, if_true, if_false, reduceIte, Nat.reduceEqDiff, reduceCtorEq])
    | ((with_reducible show AW _ _ (.cond _ _ _) _ _ _); refine AW_cond rfl (fun hg => ?_) (fun hg => ?_) <;> first | (exfalso; simp only [reduceCtorEq] at hg; done) | ((try simp only [Bool.not_eq_true', Bool.not_eq_false', decide_eq_true_eq, decide_eq_false_iff_not] at hg); try (exfalso; omega)))
    | ((with_reducible show _ ∧ _); refine And.intro (fun hg => ?_) (fun hg => ?_) <;> (try simp only [Bool.not_eq_true', Bool.not_eq_false'] at hg) <;> simp only [hg] <;> (try simp only [decide_eq_true_eq, decide_eq_false_iff_not] at hg) <;> (try (exfalso; omega)))
    | ((first | (with_reducible apply FunH_intro) | (with_reducible apply AQ_intro)); (first | exact Delete_float32_c _ _ _ _ _ _ (by first | assumption | exact (hp_getj _ _ _).trans rfl | exact (hp_get0 _ _).trans rfl) (by first | rfl | assumption | omega | (simp; done)) (by first | assumption | omega | (simp; omega) | (simp; done)) (by first | assumption | omega | (simp; omega) | (simp; done)) (by first | rfl | assumption | omega | (simp; done)) | exact Delete_int64_c _ _ _ _ _ _ (by first | assumption | exact (hp_getj _ _ _).trans rfl | exact (hp_get0 _ _).trans rfl) (by first | rfl | assumption | omega | (simp; done)) (by first | assumption | omega | (simp; omega) | (simp; done)) (by first | assumption | omega | (simp; omega) | (simp; done)) (by first | rfl | assumption | omega | (simp; done))))
    | (clear hK K)
    | fail)
  refine AW_loopV [3, 20, 21, 22, 23, 24, 25, 26, 27, 28, 29, 30, 31, 32, 33, 34, 35, 36, 37, 38, 39, 40, 41, 42, 43, 44, 45, 46, 47, 48, 49, 50, 51, 52, 53, 54, 55, 56, 57, 58, 59, 60, 61, 62, 63, 64, 65, 66, 67, 68, 69, 70, 71, 72, 73, 74, 75, 76, 77, 78, 79, 80, 81, 82, 83, 84, 85, 86, 87, 88, 89, 90, 91, 92, 93, 94, 95, 96, 97, 98, 99, 100] (fun i : Nat => [(3, .int .i64 (i : Nat))]) (fun i => G4 H a b c p ⟨va, false, 37, 1, cV L.length (sqAt room L i)⟩ ⟨vb, false, 2, 1, cG L.length (sqAt room L i)⟩ ⟨vc, false, 2, 1, cS L.length (sqAt room L i)⟩
      ⟨vp, false, 27, 5, [.int .i64 n, .int .i64 cnt, .sl a va 0 (sqAt room L i).length none, .sl b vb 0 (sqAt room L i).length none, .sl c vc 0 (sqAt room L i).length none]⟩) (fun i => i ≤ L.length - 2) (fun i => i) (L.length - 2) (Nat.le_refl _) ?_ ?_ ?_
  · simp only [junkAll, setAll, List.foldl_cons, List.foldl_nil, List.set_cons_succ, List.set_cons_zero, JL, true_or, or_true, and_true, true_and, reduceCtorEq, false_or, or_false, LV.int.injEq, LV.bool.injEq, LV.flt.injEq, LV.sl.injEq, LV.ptr.injEq, eq_self, Int.natCast_add, Int.natCast_one, Int.natCast_zero, Int.ofNat_zero]; omega
  · simp only [sqAt_start (show L.length ≤ L.length - 2 + 2 by omega)]; exact hself
  · intro i hi K hK
    simp only [junkAll, setAll, List.foldl_cons, List.foldl_nil, List.set_cons_succ, List.set_cons_zero]
    rcases Nat.eq_zero_or_pos i with h0 | h0
    · subst h0
      simp only [sqAt_end]
      repeat' (first
        | ((with_reducible refine hK _ _ ?_); clear hK K)
        | ((with_reducible refine hK _ ?_); clear hK K; try simp only [])
        | ((first | (with_reducible show AOp _ _ _ _ _ _ _) | (with_reducible show AQOp _ _ _ _ _ _ _)); simp (disch := first | ((with_reducible show liveO _ _ _ = true); first | assumption | (exact liveO_at (G4.gp D)) | (exact liveO_at (G4.gb D)) | (exact liveO_at (G4.gc D)) | (exact liveO_at (G4.ga D)) | (exact liveO_setS (by assumption)) | (exact PtL.live (by assumption)) | (exact PtL.liveA (by assumption) _) | (simp only [go_sem]; done)) | omega | assumption | rfl | (simp only [go_sem]; first | done | omega)) only [go_sem, reduceIte, reduceCtorEq, Nat.reduceAdd, Nat.reduceMul, Nat.reduceSub, Nat.reduceLeDiff, Nat.lt_irrefl, Nat.reduceLT, Nat.reduceEqDiff, Nat.reduceBEq, Int.reduceLE, Int.reduceLT, Int.reduceToNat, w64, eq_self])
        | (with_reducible refine AW_seq (fun K hK => ?_))
        | (with_reducible refine AW_region tyOk ?_)
        | ((with_reducible refine AW_quiet (id := 0) tyOk ?_ ?_ ?_); (kernel_rfl); (kernel_rfl))
        | ((with_reducible refine AW_quiet (id := 4) tyOk ?_ ?_ ?_); (kernel_rfl); (kernel_rfl))
        | ((with_reducible refine AW_drawn (id := 5) tyOk 17 ?_ ?_ ?_); (kernel_rfl); (kernel_rfl); simp only [List.take_succ_cons, List.take_zero, List.drop_succ_cons, List.drop_zero])
        | (with_reducible refine AOps_cons (fun K hK => ?_))
        | (with_reducible refine AQOps_cons (fun K hK => ?_))
        | ((with_reducible refine AQOps_nil ?_); try simp only [thenA, blockA, if_true, if_false, reduceIte, Nat.reduceEqDiff, reduceCtorEq])
        | ((with_reducible refine AOps_nil ?_); try simp only [thenA, blockA, if_true, if_false, reduceIte, Nat.reduceEqDiff, reduceCtorEq])
        | (with_reducible refine AW_block ?_)
        | ((first | (with_reducible refine AW_ret ?_) | (with_reducible refine AW_skip ?_) | (with_reducible refine AW_exit ?_)); try simp only [thenA, blockA, if_true, if_false, reduceIte, Nat.reduceEqDiff, reduceCtorEq])
        | ((with_reducible show AW _ _ (.cond _ _ _) _ _ _); refine AW_cond rfl (fun hg => ?_) (fun hg => ?_) <;> first | (exfalso; simp only [reduceCtorEq] at hg; done) | ((try simp only [Bool.not_eq_true', Bool.not_eq_false', decide_eq_true_eq, decide_eq_false_iff_not] at hg); try (exfalso; omega)))
        | ((with_reducible show _ ∧ _); refine And.intro (fun hg => ?_) (fun hg => ?_) <;> (try simp only [Bool.not_eq_true', Bool.not_eq_false'] at hg) <;> simp only [hg] <;> (try simp only [decide_eq_true_eq, decide_eq_false_iff_not] at hg) <;> (try (exfalso; omega)))
        | ((first | (with_reducible apply FunH_intro) | (with_reducible apply AQ_intro)); (first | exact Delete_float32_c _ _ _ _ _ _ (by first | assumption | exact (hp_getj _ _ _).trans rfl | exact (hp_get0 _ _).trans rfl) (by first | rfl | assumption | omega | (simp; done)) (by first | assumption | omega | (simp; omega) | (simp; done)) (by first | assumption | omega | (simp; omega) | (simp; done)) (by first | rfl | assumption | omega | (simp; done)) | exact Delete_int64_c _ _ _ _ _ _ (by first | assumption | exact (hp_getj _ _ _).trans rfl | exact (hp_get0 _ _).trans rfl) (by first | rfl | assumption | omega | (simp; done)) (by first | assumption | omega | (simp; omega) | (simp; done)) (by first | assumption | omega | (simp; omega) | (simp; done)) (by first | rfl | assumption | omega | (simp; done))))
        | (clear hK K)
        | fail)
      all_goals (first | refine EndA_cut hcl (by first | exact Or.inr rfl | exact Or.inl rfl) (by simp only [Try.results201, resA, aresL, go_sem, reduceIte, reduceCtorEq, Nat.reduceAdd, Nat.reduceMul, Nat.reduceSub, Nat.reduceLeDiff, Nat.lt_irrefl, Nat.reduceLT, Nat.reduceEqDiff, Nat.reduceBEq, Int.reduceLE, Int.reduceLT, Int.reduceToNat, w64, eq_self] <;> rfl) rfl ?_ | refine EndA_same (by first | exact Or.inr rfl | exact Or.inl rfl) (by simp only [Try.results201, resA, aresL, go_sem, reduceIte, reduceCtorEq, Nat.reduceAdd, Nat.reduceMul, Nat.reduceSub, Nat.reduceLeDiff, Nat.lt_irrefl, Nat.reduceLT, Nat.reduceEqDiff, Nat.reduceBEq, Int.reduceLE, Int.reduceLT, Int.reduceToNat, w64, eq_self] <;> rfl) ?_)
      all_goals exact ⟨rfl, rfl⟩
    · obtain ⟨j, rfl⟩ : ∃ j, i = j + 1 := ⟨i - 1, by omega⟩
      obtain ⟨t, d, r, q1, q2, q3⟩ := sqAt_step (room := room) (L := L) (i := j) (by omega)
      have hpl : (L.take (j + 1)).length = j + 1 := by rw [List.length_take]; omega
      obtain ⟨pre, hpre⟩ : ∃ pre, L.take (j + 1) = pre := ⟨_, rfl⟩
      rw [hpre] at hpl q2 q3
      have hmem := sqAt_mem (room := room) hT (j + 1)
      have hlen := sqAt_len room L (j + 1)
      rw [q2] at hmem hlen ⊢
      have mt := hmem t (by simp)
      have md := hmem d (by simp)
      obtain ⟨m, hm⟩ : ∃ m, (pre ++ t :: d :: r).length = m := ⟨_, rfl⟩
      have hmj : j + 2 < m := by rw [← hm, List.length_append, hpl]; simp only [List.length_cons]; omega
      have hmk : m ≤ L.length := by rw [← hm]; exact hlen
      have gG : ∀ k : Nat, (cG L.length (pre ++ t :: d :: r))[k]? = ((pre ++ t :: d :: r).map (fun t => LV.int .i64 (tg t)))[k]? := fun k => rfl
      have gS : ∀ k : Nat, (cS L.length (pre ++ t :: d :: r))[k]? = ((pre ++ t :: d :: r).map (fun t => LV.int .i64 (ts t)))[k]? := fun k => rfl
      have x1 : (cG L.length (pre ++ t :: d :: r))[j + 1]? = some (.int .i64 (tg t)) := by
        rw [gG, List.map_append, List.getElem?_append_right (by simp [hpl])]; simp [hpl]
      have x2 : (cG L.length (pre ++ t :: d :: r))[j + 2]? = some (.int .i64 (tg d)) := by
        rw [gG, List.map_append, List.getElem?_append_right (by simp [hpl])]; simp [hpl]
      have x3 : (cS L.length (pre ++ t :: d :: r))[j + 2]? = some (.int .i64 (ts d)) := by
        rw [gS, List.map_append, List.getElem?_append_right (by simp [hpl])]; simp [hpl]
      have n1 : ((((j + 1 : Nat) : Int)) + 1).toNat = j + 2 := by omega
      obtain ⟨A, hAe⟩ : ∃ A, cV L.length (pre ++ t :: d :: r) = A := ⟨_, rfl⟩
      obtain ⟨B, hBe⟩ : ∃ B, cG L.length (pre ++ t :: d :: r) = B := ⟨_, rfl⟩
      obtain ⟨C, hCe⟩ : ∃ C, cS L.length (pre ++ t :: d :: r) = C := ⟨_, rfl⟩
      rw [hBe] at x1 x2
      rw [hCe] at x3
      rw [hAe, hBe, hCe, hm]
      have lB : B.length = m := by rw [← hBe]; unfold cG; rw [List.length_map, hm]
      by_cases hle : tg t + tg d + ts d ≤ room
      · rw [if_pos hle] at q3
        obtain ⟨d', hd'⟩ : ∃ d' : Tp, (tv d, tg d + tg t, ts d) = d' := ⟨_, rfl⟩
        rw [hd'] at q3
        have hm' : (pre ++ t :: d' :: r).length = m := by rw [← hm]; simp
        have hml : (pre ++ d' :: r).length = m - 1 := by rw [← hm]; simp
        have eA : A = (pre ++ t :: d' :: r).map (fun t => LV.flt .f32 (tv t)) := by
          rw [← hAe, ← hd']; unfold cV; simp [tv]
        have eC : C = (pre ++ t :: d' :: r).map (fun t => LV.int .i64 (ts t)) := by
          rw [← hCe, ← hd']; unfold cS; simp [ts]
        have eB : B.set (j + 2) (.int .i64 (tg d + tg t)) = (pre ++ t :: d' :: r).map (fun t => LV.int .i64 (tg t)) := by
          rw [← hBe, ← hd']; unfold cG; rw [List.map_append, List.set_append_right _ _ (by rw [List.length_map]; omega), List.length_map, hpl, show j + 2 - (j + 1) = 1 by omega]
          simp [tg]
        have dV := fun (B' C' P' : AO) => (Delete_float32_c a va m (j + 1) ((pre ++ t :: d' :: r).map fun t => LV.flt .f32 (tv t)) (G4 H a b c p ⟨va, false, 37, 1, A⟩ B' C' P') (by rw [G4.ga D, eA]) (by rw [List.length_map, hm']) (by omega) (by omega) (map_cell (fun _ => rfl) _)).mono
          (Q' := fun r' H' => r' = .sl a va 0 (m - 1) none ∧ H' = G4 H a b c p ⟨va, false, 37, 1, cV L.length (pre ++ d' :: r)⟩ B' C' P') fun r' H' hh => ⟨hh.1, by rw [hh.2, G4.sa D, del_mid _ pre r t d' (j + 1) hpl]; rfl⟩
        have dG := fun (A' C' P' : AO) => (Delete_int64_c b vb m (j + 1) ((pre ++ t :: d' :: r).map fun t => LV.int .i64 (tg t)) (G4 H a b c p A' ⟨vb, false, 2, 1, B.set (j + 2) (.int .i64 (tg d + tg t))⟩ C' P') (by rw [G4.gb D, eB]) (by rw [List.length_map, hm']) (by omega) (by omega) (map_cell (fun _ => rfl) _)).mono
          (Q' := fun r' H' => r' = .sl b vb 0 (m - 1) none ∧ H' = G4 H a b c p A' ⟨vb, false, 2, 1, cG L.length (pre ++ d' :: r)⟩ C' P') fun r' H' hh => ⟨hh.1, by rw [hh.2, G4.sb D, del_mid _ pre r t d' (j + 1) hpl]; rfl⟩
        have dS := fun (A' B' P' : AO) => (Delete_int64_c c vc m (j + 1) ((pre ++ t :: d' :: r).map fun t => LV.int .i64 (ts t)) (G4 H a b c p A' B' ⟨vc, false, 2, 1, C⟩ P') (by rw [G4.gc D, eC]) (by rw [List.length_map, hm']) (by omega) (by omega) (map_cell (fun _ => rfl) _)).mono
          (Q' := fun r' H' => r' = .sl c vc 0 (m - 1) none ∧ H' = G4 H a b c p A' B' ⟨vc, false, 2, 1, cS L.length (pre ++ d' :: r)⟩ P') fun r' H' hh => ⟨hh.1, by rw [hh.2, G4.sc D, del_mid _ pre r t d' (j + 1) hpl]; rfl⟩
        repeat' (first
          | ((with_reducible refine hK _ _ ?_); clear hK K)
          | ((with_reducible refine hK _ ?_); clear hK K; try simp only [])
          | ((first | (with_reducible show AOp _ _ _ _ _ _ _) | (with_reducible show AQOp _ _ _ _ _ _ _)); simp (disch := first | ((with_reducible show liveO _ _ _ = true); first | assumption | (exact liveO_at (G4.gp D)) | (exact liveO_at (G4.gb D)) | (exact liveO_at (G4.gc D)) | (exact liveO_at (G4.ga D)) | (exact liveO_setS (by assumption)) | (exact PtL.live (by assumption)) | (exact PtL.liveA (by assumption) _) | (simp only [go_sem]; done)) | omega | assumption | rfl | (simp only [go_sem]; first | done | omega)) only [go_sem, reduceIte, reduceCtorEq, Nat.reduceAdd, Nat.reduceMul, Nat.reduceSub, Nat.reduceLeDiff, Nat.lt_irrefl, Nat.reduceLT, Nat.reduceEqDiff, Nat.reduceBEq, Int.reduceLE, Int.reduceLT, Int.reduceToNat, w64, eq_self, hget_at (G4.gp D), hget_at (G4.gb D), hget_at (G4.gc D), hputA_at (G4.gb D), hputA_at (G4.gp D), G4.sb D, G4.sp D, lB, x1, x2, x3, n1])
          | (with_reducible refine AW_seq (fun K hK => ?_))
          | (with_reducible refine AW_region tyOk ?_)
          | ((with_reducible refine AW_quiet (id := 0) tyOk ?_ ?_ ?_); (kernel_rfl); (kernel_rfl))
          | ((with_reducible refine AW_quiet (id := 4) tyOk ?_ ?_ ?_); (kernel_rfl); (kernel_rfl))
          | ((with_reducible refine AW_drawn (id := 5) tyOk 17 ?_ ?_ ?_); (kernel_rfl); (kernel_rfl); simp only [List.take_succ_cons, List.take_zero, List.drop_succ_cons, List.drop_zero])
          | (with_reducible refine AOps_cons (fun K hK => ?_))
          | (with_reducible refine AQOps_cons (fun K hK => ?_))
          | ((with_reducible refine AQOps_nil ?_); try simp only [thenA, blockA, if_true, if_false, reduceIte, Nat.reduceEqDiff, reduceCtorEq])
          | ((with_reducible refine AOps_nil ?_); try simp only [thenA, blockA, if_true, if_false, reduceIte, Nat.reduceEqDiff, reduceCtorEq])
          | (with_reducible refine AW_block ?_)
          | ((first | (with_reducible refine AW_ret ?_) | (with_reducible refine AW_skip ?_) | (with_reducible refine AW_exit ?_)); try simp only [thenA, blockA, if_true, if_false, reduceIte, Nat.reduceEqDiff, reduceCtorEq])
          | ((with_reducible show AW _ _ (.cond _ _ _) _ _ _); refine AW_cond rfl (fun hg => ?_) (fun hg => ?_) <;> first | (exfalso; simp only [reduceCtorEq] at hg; done) | ((try simp only [Bool.not_eq_true', Bool.not_eq_false', decide_eq_true_eq, decide_eq_false_iff_not] at hg); try (exfalso; omega)))
          | ((with_reducible show _ ∧ _); refine And.intro (fun hg => ?_) (fun hg => ?_) <;> (try simp only [Bool.not_eq_true', Bool.not_eq_false'] at hg) <;> simp only [hg] <;> (try simp only [decide_eq_true_eq, decide_eq_false_iff_not] at hg) <;> (try (exfalso; omega)))
          | ((first | (with_reducible apply FunH_intro) | (with_reducible apply AQ_intro)); (first | exact dV _ _ _ | exact dG _ _ _ | exact dS _ _ _ | exact Delete_float32_c _ _ _ _ _ _ (by first | assumption | exact (hp_getj _ _ _).trans rfl | exact (hp_get0 _ _).trans rfl) (by first | rfl | assumption | omega | (simp; done)) (by first | assumption | omega | (simp; omega) | (simp; done)) (by first | assumption | omega | (simp; omega) | (simp; done)) (by first | rfl | assumption | omega | (simp; done)) | exact Delete_int64_c _ _ _ _ _ _ (by first | assumption | exact (hp_getj _ _ _).trans rfl | exact (hp_get0 _ _).trans rfl) (by first | rfl | assumption | omega | (simp; done)) (by first | assumption | omega | (simp; omega) | (simp; done)) (by first | assumption | omega | (simp; omega) | (simp; done)) (by first | rfl | assumption | omega | (simp; done))))
          | (clear hK K)
          | fail)
        refine hK _ _ j (by omega) (by omega) ?_ ?_
        · simp only [junkAll, setAll, List.foldl_cons, List.foldl_nil, List.set_cons_succ, List.set_cons_zero, JL, true_or, or_true, and_true, true_and, reduceCtorEq, false_or, or_false, LV.int.injEq, LV.bool.injEq, LV.flt.injEq, LV.sl.injEq, LV.ptr.injEq, eq_self, Int.natCast_add, Int.natCast_one, Int.natCast_zero, Int.ofNat_zero]; omega
        · simp only [q3, hml]
      · rw [if_neg hle, ← q2] at q3
        repeat' (first
          | ((with_reducible refine hK _ _ ?_); clear hK K)
          | ((with_reducible refine hK _ ?_); clear hK K; try simp only [])
          | ((first | (with_reducible show AOp _ _ _ _ _ _ _) | (with_reducible show AQOp _ _ _ _ _ _ _)); simp (disch := first | ((with_reducible show liveO _ _ _ = true); first | assumption | (exact liveO_at (G4.gp D)) | (exact liveO_at (G4.gb D)) | (exact liveO_at (G4.gc D)) | (exact liveO_at (G4.ga D)) | (exact liveO_setS (by assumption)) | (exact PtL.live (by assumption)) | (exact PtL.liveA (by assumption) _) | (simp only [go_sem]; done)) | omega | assumption | rfl | (simp only [go_sem]; first | done | omega)) only [go_sem, reduceIte, reduceCtorEq, Nat.reduceAdd, Nat.reduceMul, Nat.reduceSub, Nat.reduceLeDiff, Nat.lt_irrefl, Nat.reduceLT, Nat.reduceEqDiff, Nat.reduceBEq, Int.reduceLE, Int.reduceLT, Int.reduceToNat, w64, eq_self, hget_at (G4.gp D), hget_at (G4.gb D), hget_at (G4.gc D), x1, x2, x3, n1])
          | (with_reducible refine AW_seq (fun K hK => ?_))
          | (with_reducible refine AW_region tyOk ?_)
          | ((with_reducible refine AW_quiet (id := 0) tyOk ?_ ?_ ?_); (kernel_rfl); (kernel_rfl))
          | ((with_reducible refine AW_quiet (id := 4) tyOk ?_ ?_ ?_); (kernel_rfl); (kernel_rfl))
          | ((with_reducible refine AW_drawn (id := 5) tyOk 17 ?_ ?_ ?_); (kernel_rfl); (kernel_rfl); simp only [List.take_succ_cons, List.take_zero, List.drop_succ_cons, List.drop_zero])
          | (with_reducible refine AOps_cons (fun K hK => ?_))
          | (with_reducible refine AQOps_cons (fun K hK => ?_))
          | ((with_reducible refine AQOps_nil ?_); try simp only [thenA, blockA, if_true, if_false, reduceIte, Nat.reduceEqDiff, reduceCtorEq])
          | ((with_reducible refine AOps_nil ?_); try simp only [thenA, blockA, if_true, if_false, reduceIte, Nat.reduceEqDiff, reduceCtorEq])
          | (with_reducible refine AW_block ?_)
          | ((first | (with_reducible refine AW_ret ?_) | (with_reducible refine AW_skip ?_) | (with_reducible refine AW_exit ?_)); try simp only [thenA, blockA, if_true, if_false, reduceIte, Nat.reduceEqDiff, reduceCtorEq])
          | ((with_reducible show AW _ _ (.cond _ _ _) _ _ _); refine AW_cond rfl (fun hg => ?_) (fun hg => ?_) <;> first | (exfalso; simp only [reduceCtorEq] at hg; done) | ((try simp only [Bool.not_eq_true', Bool.not_eq_false', decide_eq_true_eq, decide_eq_false_iff_not] at hg); try (exfalso; omega)))
          | ((with_reducible show _ ∧ _); refine And.intro (fun hg => ?_) (fun hg => ?_) <;> (try simp only [Bool.not_eq_true', Bool.not_eq_false'] at hg) <;> simp only [hg] <;> (try simp only [decide_eq_true_eq, decide_eq_false_iff_not] at hg) <;> (try (exfalso; omega)))
          | ((first | (with_reducible apply FunH_intro) | (with_reducible apply AQ_intro)); (first | exact Delete_float32_c _ _ _ _ _ _ (by first | assumption | exact (hp_getj _ _ _).trans rfl | exact (hp_get0 _ _).trans rfl) (by first | rfl | assumption | omega | (simp; done)) (by first | assumption | omega | (simp; omega) | (simp; done)) (by first | assumption | omega | (simp; omega) | (simp; done)) (by first | rfl | assumption | omega | (simp; done)) | exact Delete_int64_c _ _ _ _ _ _ (by first | assumption | exact (hp_getj _ _ _).trans rfl | exact (hp_get0 _ _).trans rfl) (by first | rfl | assumption | omega | (simp; done)) (by first | assumption | omega | (simp; omega) | (simp; done)) (by first | assumption | omega | (simp; omega) | (simp; done)) (by first | rfl | assumption | omega | (simp; done))))
          | (clear hK K)
          | fail)
        refine hK _ _ j (by omega) (by omega) ?_ ?_
        · simp only [junkAll, setAll, List.foldl_cons, List.foldl_nil, List.set_cons_succ, List.set_cons_zero, JL, true_or, or_true, and_true, true_and, reduceCtorEq, false_or, or_false, LV.int.injEq, LV.bool.injEq, LV.flt.injEq, LV.sl.injEq, LV.ptr.injEq, eq_self, Int.natCast_add, Int.natCast_one, Int.natCast_zero, Int.ofNat_zero]; omega
        · simp only [q3, q2, hAe, hBe, hCe, hm]
end Go.Proofs.Ytkkcfbpgcekmjaa
