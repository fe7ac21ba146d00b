/- Levels of two joined, row by row: plainly, and where they lie. -/
import Derived.Test.YtonlgkecphijoaaYf
namespace Go.Proofs.Ytonlgkecphijoaa
open Go.RowKit
set_option linter.unusedSimpArgs false
set_option linter.unusedVariables false
set_option maxRecDepth 100000

def mgG (m : List (List Nat)) (k : Nat) : List (List Nat) := if k = m.length then m ++ [[]] else m
/-- Rows of b put behind those of a, the first k. -/
def mgS (la lb : List (List Nat)) : Nat → List (List Nat)
  | 0 => la
  | k + 1 => (mgG (mgS la lb k) k).set k (ix (mgG (mgS la lb k) k) k ++ ix lb k)
theorem mgG_len (m : List (List Nat)) (k : Nat) : (mgG m k).length = if k = m.length then m.length + 1 else m.length := by
  unfold mgG; split
  · rw [List.length_append]; rfl
  · rfl
theorem mgG_tot (m : List (List Nat)) (k : Nat) : totW (mgG m k) = totW m := by
  unfold mgG; split
  · rw [totW_app]; rfl
  · rfl
theorem mgS_len (la lb : List (List Nat)) : ∀ k, (mgS la lb k).length = max la.length k ∨ k < la.length ∧ (mgS la lb k).length = la.length
  | 0 => Or.inl (by show la.length = _; omega)
  | k + 1 => by
    have h1 := mgS_len la lb k
    have h2 := mgG_len (mgS la lb k) k
    have h3 : (mgS la lb (k + 1)).length = (mgG (mgS la lb k) k).length := List.length_set
    rw [h3, h2]
    split <;> omega
theorem mgS_len' (la lb : List (List Nat)) (k : Nat) : (mgS la lb k).length = max la.length k := by
  have := mgS_len la lb k; omega
theorem mgS_tot (la lb : List (List Nat)) : ∀ k, k ≤ lb.length → totW (mgS la lb k) = totW la + totW (lb.take k)
  | 0, _ => rfl
  | k + 1, hk => by
    have h1 := mgS_tot la lb k (by omega)
    have h2 := mgG_len (mgS la lb k) k
    have h3 := mgS_len' la lb k
    have h4 := totW_set (ls := mgG (mgS la lb k) k) (k := k) (by rw [h2]; split <;> omega) (ix (mgG (mgS la lb k) k) k ++ ix lb k)
    rw [mgG_tot, List.length_append] at h4
    have h5 : totW (lb.take (k + 1)) = totW (lb.take k) + (ix lb k).length := by rw [take_ix _ _ (show k < lb.length by omega), totW_app]; rfl
    show totW ((mgG (mgS la lb k) k).set k _) = _
    omega
structure SM (H Z : Hp) (B : Nat) (r s : Int) (A v : Nat) (P : List (Nat × Nat × List Nat)) : Prop where
  ls : LS H Z A v P
  box : Z[B]? = some (bxL r s A v P.length)
  lo : H.length ≤ B
  nA : A ≠ B
  nk : ∀ k, k < P.length → (ix P k).1 ≠ B
section
variable {H Z : Hp} {B A v k : Nat} {r s : Int} {P : List (Nat × Nat × List Nat)}
theorem LS.startM (h : LS H Z A v P) (r s : Int) : SM H (Z ++ [bxL r s A v P.length]) Z.length r s A v P :=
  ⟨h.app _, (hp_get0 _ _).trans rfl, h.lenX, by have := h.ltA; omega, fun k hk => by have := h.ltk hk; omega⟩
theorem SM.ltB (h : SM H Z B r s A v P) : B < Z.length := lt_ofX h.box
theorem SM.lvB (h : SM H Z B r s A v P) : liveO Z B 0 = true := liveO_at h.box
theorem SM.lvBA (h : SM H Z B r s A v P) (L : Hp) : liveO (Z ++ L) B 0 = true := liveO_at (at_app h.box L)
theorem SM.lvA (h : SM H Z B r s A v P) : liveO Z A v = true := liveO_at h.ls.out
theorem SM.lvAA (h : SM H Z B r s A v P) (L : Hp) : liveO (Z ++ L) A v = true := liveO_at (at_app h.ls.out L)
theorem SM.gB (h : SM H Z B r s A v P) (j : Nat) : hget Z B 0 j = ([.int .i64 r, .int .i64 s, .sl A v 0 P.length none] : List LV)[j]? := hget_at h.box
theorem SM.gBA (h : SM H Z B r s A v P) (L : Hp) (j : Nat) : hget (Z ++ L) B 0 j = ([.int .i64 r, .int .i64 s, .sl A v 0 P.length none] : List LV)[j]? := hget_at (at_app h.box L)
theorem SM.gA (h : SM H Z B r s A v P) (j : Nat) : hget Z A v j = (P.map cR)[j]? := hget_at h.ls.out
theorem SM.gAA (h : SM H Z B r s A v P) (L : Hp) (j : Nat) : hget (Z ++ L) A v j = (P.map cR)[j]? := hget_at (at_app h.ls.out L)
theorem SM.bS (h : SM H Z B r s A v P) (o : AO) (L : Hp) : ((Z ++ L).set A o)[B]? = some (bxL r s A v P.length) := by rw [List.getElem?_set_ne h.nA]; exact at_app h.box L
theorem SM.bSl (h : SM H Z B r s A v P) (o : AO) (L : Hp) : liveO ((Z ++ L).set A o) B 0 = true := liveO_at (h.bS o L)
theorem SM.bSp (h : SM H Z B r s A v P) (o : AO) (L : Hp) (x : LV) : hput ((Z ++ L).set A o) B 0 2 [x] = some (((Z ++ L).set A o).set B ⟨0, false, 27, 3, [.int .i64 r, .int .i64 s, x]⟩) := hputA_at (h.bS o L) (by simp)
theorem SM.pA (h : SM H Z B r s A v P) (hk : k < P.length) (L : Hp) (x : LV) : hput (Z ++ L) A v k [x] = some ((Z ++ L).set A ⟨v, false, 41, 1, (P.map cR).set k x⟩) := hputA_at (at_app h.ls.out L) (by simp; omega)
theorem SM.pA0 (h : SM H Z B r s A v P) (hk : k < P.length) (x : LV) : hput Z A v k [x] = some (Z.set A ⟨v, false, 41, 1, (P.map cR).set k x⟩) := hputA_at h.ls.out (by simp; omega)
theorem SM.app (h : SM H Z B r s A v P) (K : Hp) : SM H (Z ++ K) B r s A v P := ⟨h.ls.app K, at_app h.box K, h.lo, h.nA, h.nk⟩
theorem SM.add (h : SM H Z B r s A v P) (q : Nat × Nat × List Nat) (hi : Z[q.1]? = some (oR q)) (h1 : H.length ≤ q.1) (h2 : q.1 ≠ A) (h3 : ∀ k, k < P.length → (ix P k).1 ≠ q.1) (h4 : q.1 ≠ B) :
    SM H ((Z.set A ⟨v + 1, false, 41, 1, P.map cR ++ [cR q]⟩).set B (bxL r s A (v + 1) (P.length + 1))) B r s A (v + 1) (P ++ [q]) := by
  have hb := h.ltB
  have hn : ∀ k, k < (P ++ [q]).length → (ix (P ++ [q]) k).1 ≠ B := fun k hk => by
    rw [List.length_append] at hk
    simp only [List.length_cons, List.length_nil] at hk
    rcases Nat.lt_or_ge k P.length with h6 | h6
    · rw [ix_appL h6]; exact h.nk k h6
    · obtain rfl : k = P.length := by omega
      rw [ix_appN]; exact h4
  refine ⟨(h.ls.add q hi h1 h2 h3).setN _ h.lo h.nA hn, ?_, h.lo, h.nA, hn⟩
  rw [List.getElem?_set_self (by rw [List.length_set]; exact hb), List.length_append]; rfl
theorem SM.addN (h : SM H Z B r s A v P) (L : Hp) (j : Nat) (ws : List Nat) (hj : L[j]? = some ⟨0, false, 25, 1, ws.map Fw⟩) :
    SM H (((Z ++ L).set A ⟨v + 1, false, 41, 1, P.map cR ++ [.sl (Z.length + j) 0 0 ws.length none]⟩).set B (bxL r s A (v + 1) (P.length + 1))) B r s A (v + 1) (P ++ [(Z.length + j, 0, ws)]) := by
  have h1 := h.ls.ltA
  have h2 := h.ls.lenX
  have h3 := h.ltB
  exact (h.app L).add (Z.length + j, 0, ws) (by rw [hp_getj, hj]; rfl) (by simp only; omega) (by simp only; omega) (fun k hk => by have := h.ls.ltk hk; simp only; omega) (by simp only; omega)
theorem SM.putOld (h : SM H Z B r s A v P) (hk : k < P.length) (v' : Nat) (ws : List Nat) :
    SM H ((Z.set (ix P k).1 ⟨v', false, 25, 1, ws.map Fw⟩).set A ⟨v, false, 41, 1, (P.map cR).set k (.sl (ix P k).1 v' 0 ws.length none)⟩) B r s A v (P.set k ((ix P k).1, v', ws)) := by
  refine ⟨h.ls.putOld hk v' ws, ?_, h.lo, h.nA, fun j hj => ?_⟩
  · rw [List.getElem?_set_ne h.nA, List.getElem?_set_ne (h.nk k hk), List.length_set]; exact h.box
  · rw [List.length_set] at hj
    rw [ix_setA hj]
    split
    · exact h.nk k hk
    · exact h.nk j hj
end
/-- An append to a row of one's own, whatever its length. -/
theorem aapp5 {el id ver n m : Nat} {H : Hp} {cs news : List LV} (hn : cs.length = n) (hc : cs.all LV.isCell = true) (hm : news.length = m) (hb : n + m ≤ 1048576) :
    ∃ v5 : Nat, ∀ te : TE, te.sz = 1 → te.by_ = 4 → aappO te el H id ver 0 n none m news (some ⟨ver, false, el, 1, cs⟩) = some (.sl id v5 0 (n + m) none, H.set id ⟨v5, false, el, 1, cs ++ news⟩) := by
  by_cases h0 : m = 0
  · have hz : news = [] := List.eq_nil_of_length_eq_zero (by omega)
    subst hz
    subst h0
    refine ⟨ver, fun te hs hby => ?_⟩
    unfold aappO
    simp only [hs, hby]
    rw [if_neg (by simp), if_neg (by simp), if_neg (by simp), if_neg (by simp), if_pos (by omega), List.append_nil]
    rfl
  · refine ⟨ver + 1, fun te hs hby => ?_⟩
    unfold aappO
    simp only [hs, hby]
    rw [if_neg (by simp), if_neg (by simp), if_neg (by simp), if_neg (by simp), if_neg (by omega), if_pos ⟨trivial, by omega, hc, by omega, by omega⟩]
def mlOk (r s r2 s2 : Int) (xss yss : List (List (Option Nat))) : Bool := levB r s xss && levB r2 s2 yss && (r == r2) && stOk r (plS r s (mgS (unw xss) (unw yss) yss.length))
end Go.Proofs.Ytonlgkecphijoaa
