/- Pointers to structs in the abstract machine. -/
import Derived.Test.YtfofkebkcjkjeaaAv
namespace Go.Proofs.Ytfofkebkcjkjeaa
open Go.RowKit
set_option linter.unusedSimpArgs false
set_option linter.unusedVariables false
set_option maxRecDepth 100000

/-- The pointer .ptr id ver 0 leads to a struct of cells cs. -/
def PtL (H : Hp) (id ver : Nat) (cs : List LV) : Prop := ∃ ro el sz, H[id]? = some ⟨ver, ro, el, sz, cs⟩
section
variable {H K : Hp} {id ver : Nat} {cs : List LV}
theorem PtL.live (h : PtL H id ver cs) : liveO H id ver = true := by
  obtain ⟨ro, el, sz, h⟩ := h
  simp [liveO, h]
theorem PtL.get (h : PtL H id ver cs) (k : Nat) : hget H id ver k = cs[k]? := by
  obtain ⟨ro, el, sz, h⟩ := h
  simp [hget, h]
theorem PtL.gets (h : PtL H id ver cs) {n : Nat} (hn : n = cs.length) : hgets H id ver 0 n = some cs := by
  obtain ⟨ro, el, sz, h⟩ := h
  subst hn
  simp [hgets, h]
theorem PtL.app (h : PtL H id ver cs) (K : Hp) : PtL (H ++ K) id ver cs := by
  obtain ⟨ro, el, sz, h⟩ := h
  refine ⟨ro, el, sz, ?_⟩
  rw [List.getElem?_append_left]
  · exact h
  · rcases Nat.lt_or_ge id H.length with h' | h'
    · exact h'
    · simp [List.getElem?_eq_none h'] at h
theorem PtL_h0 {el sz : Nat} {ro : Bool} (h : K[0]? = some ⟨ver, ro, el, sz, cs⟩) : PtL (H ++ K) H.length ver cs := ⟨_, _, _, (hp_get0 _ _).trans h⟩
theorem PtL_hj {el sz j : Nat} {ro : Bool} (h : K[j]? = some ⟨ver, ro, el, sz, cs⟩) : PtL (H ++ K) (H.length + j) ver cs := ⟨_, _, _, (hp_getj _ _ _).trans h⟩
theorem PtL.liveA (h : PtL H id ver cs) (K : Hp) : liveO (H ++ K) id ver = true := (h.app K).live
theorem PtL.getA (h : PtL H id ver cs) (K : Hp) (k : Nat) : hget (H ++ K) id ver k = cs[k]? := (h.app K).get k
theorem PtL.getsA (h : PtL H id ver cs) (K : Hp) {n : Nat} (hn : n = cs.length) : hgets (H ++ K) id ver 0 n = some cs := (h.app K).gets hn
end
end Go.Proofs.Ytfofkebkcjkjeaa
