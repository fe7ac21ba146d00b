/- Objects of a heap, by their places. -/
import Derived.Test.YthcbbnigpkkkiaaZn
import Derived.Test.YthcbbnigpkkkiaaZp
namespace Go.Proofs.Ythcbbnigpkkkiaa
open Go.RowKit
set_option linter.unusedSimpArgs false
set_option linter.unusedVariables false

/-! Objects behind a heap of known length. -/
section
variable {H K : Hp} {n j ver off m : Nat}
theorem hp_getl {H K : Hp} {n j : Nat} (h : H.length = n) : (H ++ K)[n + j]? = K[j]? := by subst h; exact hp_getj _ _ _
theorem hp_get0l {H K : Hp} {n : Nat} (h : H.length = n) : (H ++ K)[n]? = K[0]? := by subst h; exact hp_get0 _ _
theorem hp_setl {H K : Hp} {n j : Nat} {o : AO} (h : H.length = n) : (H ++ K).set (n + j) o = H ++ K.set j o := by subst h; exact hp_setj _ _ _ _
theorem hp_set0l {H K : Hp} {n : Nat} {o : AO} (h : H.length = n) : (H ++ K).set n o = H ++ K.set 0 o := by subst h; exact hp_set0 _ _ _
theorem hget_l {H K : Hp} {n j ver off : Nat} (h : H.length = n) : hget (H ++ K) (n + j) ver off = hget K j ver off := by subst h; exact hget_hj
theorem hget_l0 {H K : Hp} {n ver off : Nat} (h : H.length = n) : hget (H ++ K) n ver off = hget K 0 ver off := by subst h; exact hget_h0
theorem hgets_l {H K : Hp} {n j ver off m : Nat} (h : H.length = n) : hgets (H ++ K) (n + j) ver off m = hgets K j ver off m := by subst h; exact hgets_hj
theorem hgets_l0 {H K : Hp} {n ver off m : Nat} (h : H.length = n) : hgets (H ++ K) n ver off m = hgets K 0 ver off m := by subst h; exact hgets_h0
theorem hput_l {H K : Hp} {n j ver off : Nat} {xs : List LV} (h : H.length = n) : hput (H ++ K) (n + j) ver off xs = (hput K j ver off xs).map (H ++ ·) := by subst h; exact hput_hj
theorem hput_l0 {H K : Hp} {n ver off : Nat} {xs : List LV} (h : H.length = n) : hput (H ++ K) n ver off xs = (hput K 0 ver off xs).map (H ++ ·) := by subst h; exact hput_h0
theorem liveO_l {H K : Hp} {n j ver : Nat} (h : H.length = n) : liveO (H ++ K) (n + j) ver = liveO K j ver := by subst h; exact liveO_hj
theorem liveO_l0 {H K : Hp} {n ver : Nat} (h : H.length = n) : liveO (H ++ K) n ver = liveO K 0 ver := by subst h; exact liveO_h0
theorem szO_l {H K : Hp} {n j : Nat} (h : H.length = n) : szO (H ++ K) (n + j) = szO K j := by subst h; exact szO_hj
theorem szO_l0 {H K : Hp} {n : Nat} (h : H.length = n) : szO (H ++ K) n = szO K 0 := by subst h; exact szO_h0
theorem len_l {H K : Hp} {n : Nat} (h : H.length = n) : (H ++ K).length = n + K.length := by rw [List.length_append, h]
end
/-! Objects that lie ahead. -/
theorem idx_at {B : Hp} {id v el n : Nat} {ro : Bool} {cs : List LV} (h : B[id]? = some ⟨v, ro, el, 1, cs⟩) (hn : n ≤ cs.length) (K : Hp) {i : Int} (h0 : 0 ≤ i) (h1 : i < n) : idxP (B ++ K) 1 i (.sl id v 0 n none) = some (.ptr id v i.toNat) := by
  have hl : id < B.length := by
    rcases Nat.lt_or_ge id B.length with h' | h'
    · exact h'
    · rw [List.getElem?_eq_none h'] at h; cases h
  simp [idxP, h0, h1, liveO, List.getElem?_append_left hl, h]
theorem get_at {B : Hp} {id v el : Nat} {ro : Bool} {cs : List LV} (h : B[id]? = some ⟨v, ro, el, 1, cs⟩) (K : Hp) (k : Nat) : hget (B ++ K) id v k = cs[k]? := by
  have hl : id < B.length := by
    rcases Nat.lt_or_ge id B.length with h' | h'
    · exact h'
    · rw [List.getElem?_eq_none h'] at h; cases h
  simp [hget, List.getElem?_append_left hl, h]
end Go.Proofs.Ythcbbnigpkkkiaa
