/- Least hashes of keys, plainly: what the law asks of them. -/
import Derived.Test.YtpbafacehmjdmaaRh
namespace Go.Proofs.Ytpbafacehmjdmaa
open Go.RowKit
set_option linter.unusedSimpArgs false
set_option linter.unusedVariables false
set_option maxRecDepth 100000

theorem inc_incLB {L : List Int} (h : Inc L) : incLB L = true := incLB_all fun k h0 hk => by
  have := List.pairwise_iff_getElem.1 h (k - 1) k (by omega) hk (by omega)
  rw [ix_eq _ _ (by omega), ix_eq _ _ hk]; exact this
theorem rowI_keys (xs : List Int) (s : Int) : ∀ x ∈ rowI xs s, keyB x = true := fun x hx => by
  unfold rowI at hx
  obtain ⟨k, _, rfl⟩ := List.mem_map.1 hx
  exact (keyB_iff _).2 (hashI_b k s)
theorem risB_lst (xs : List Int) (s room : Int) (hr : 1 ≤ room) : risB (lstU (rowI xs s) room) room = true := by
  unfold risB
  have h1 := lstU_len (rowI xs s) room
  rw [decide_eq_true (show ((lstU (rowI xs s) room).length : Int) ≤ room by omega)]
  have h2 : (lstU (rowI xs s) room).all keyB = true := List.all_eq_true.2 fun x hx => rowI_keys xs s x ((setU_mem _ x).1 (List.mem_of_mem_take hx))
  have h3 : incLB (lstU (rowI xs s) room) = true := inc_incLB (by unfold lstU; exact (setU_inc _).take _)
  rw [h2, h3]; rfl
theorem rowI_app (a b : List Int) (s : Int) : rowI (a ++ b) s = rowI a s ++ rowI b s := List.map_append ..
theorem dsN_map (f : Int → Int) : ∀ xs : List Int, dsN (xs.map f) ≤ dsN xs := by
  refine snoc_ind (Nat.le_refl _) fun xs x ih => ?_
  rw [List.map_append, List.map_cons, List.map_nil, dsN_snoc, dsN_snoc]
  by_cases h : x ∈ xs
  · rw [if_pos h, if_pos (List.mem_map_of_mem h)]; omega
  · rw [if_neg h]; split <;> omega
theorem setU_pos {xs : List Int} (h : 0 < xs.length) : 0 < (setU xs).length := by
  have := (setU_mem xs (ix xs 0)).2 (ix_mem xs 0 h)
  exact List.length_pos_of_mem this
theorem lstU_pos {xs : List Int} {room : Int} (h : 0 < xs.length) (hr : 1 ≤ room) : 0 < (lstU xs room).length := by
  have := setU_pos h
  unfold lstU; rw [List.length_take]; omega
theorem lstU_self (xs : List Int) (room : Int) : lstU (lstU xs room ++ lstU xs room) room = lstU xs room := by
  have h := lstU_join xs xs room
  rw [h]
  unfold lstU
  have : setU (xs ++ xs) = setU xs := setU_unique (setU_inc _) fun y => by rw [setU_mem, List.mem_append, or_self]
  rw [this]
theorem metN_self (P : List Int) : metN P P P P.length = P.length := by
  unfold metN
  rw [List.take_length, List.filter_eq_self.2 fun x hx => by simp [hx]]
/-- The least of few rooms stand ahead in those of many. -/
theorem lst_ahead (xs : List Int) {room big : Int} (hrb : room ≤ big) {i : Nat} (hi : i < (lstU xs room).length) : ix (lstU xs room) i = ix (lstU xs big) i ∧ i < (lstU xs big).length := by
  unfold lstU at hi ⊢
  rw [List.length_take] at hi
  have h2 : i < ((setU xs).take big.toNat).length := by rw [List.length_take]; omega
  refine ⟨?_, h2⟩
  rw [ix_eq _ _ (by rw [List.length_take]; exact hi), ix_eq _ _ h2, List.getElem_take, List.getElem_take]
theorem lst_inc (xs : List Int) (room : Int) {i : Nat} (h0 : 0 < i) (hi : i < (lstU xs room).length) : ix (lstU xs room) (i - 1) < ix (lstU xs room) i := by
  have := List.pairwise_iff_getElem.1 ((setU_inc xs).take room.toNat) (i - 1) i (by unfold lstU at hi; omega) hi (by omega)
  rw [ix_eq _ _ (by omega), ix_eq _ _ hi]; exact this
theorem lhL_eq {xs : List Int} {s room : Int} (h1 : keysB xs = true) (h2 : keyB s = true) (h3 : inB room 1 256 = true) : lhOk xs s room = true ∧ lhL xs s room = lstU (rowI xs s) room := by
  have : lhOk xs s room = true := by unfold lhOk; rw [h1, h2, h3]; rfl
  exact ⟨this, by unfold lhL; rw [this]; rfl⟩
theorem jlL_eq {P Q : List Int} {room : Int} (h3 : inB room 1 256 = true) (hP : risB P room = true) (hQ : risB Q room = true) : jlOk P Q room = true ∧ jlL P Q room = lstU (P ++ Q) room := by
  have : jlOk P Q room = true := by unfold jlOk; rw [h3, hP, hQ]; rfl
  exact ⟨this, by unfold jlL; rw [this]; rfl⟩
theorem molV_eq {P Q : List Int} {room : Int} (h : jlOk P Q room = true) (h0 : 0 < (jlL P Q room).length) : molOk P Q room = true ∧ molV P Q room = opC .quo .f32 (some (FloatKind.f32.nearest (metN (jlL P Q room) P Q (jlL P Q room).length : Nat))) (some (FloatKind.f32.nearest (jlL P Q room).length)) := by
  have : molOk P Q room = true := by unfold molOk; rw [h, decide_eq_false (by omega)]; rfl
  exact ⟨this, by unfold molV; rw [this]; rfl⟩
end Go.Proofs.Ytpbafacehmjdmaa
