/- Four objects of a heap, each written: three rows and what holds them. -/
import Derived.Test.YtfofkebkcjkjeaaNj
import Derived.Test.YtfofkebkcjkjeaaCa
namespace Go.Proofs.Ytfofkebkcjkjeaa
open Go.RowKit
set_option linter.unusedSimpArgs false
set_option linter.unusedVariables false

structure Ds4 (n : Nat) (a b c p : Nat) : Prop where
  la : a < n
  lb : b < n
  lc : c < n
  lp : p < n
  ab : a ≠ b
  ac : a ≠ c
  ap : a ≠ p
  bc : b ≠ c
  bp : b ≠ p
  cp : c ≠ p
def T4 (H : Hp) (a b c p : Nat) (A B C P : AO) : Hp := (((H.set a A).set b B).set c C).set p P
section
variable {H L : Hp} {a b c p n : Nat} {A B C P X A' B' C' P' : AO}
theorem T4.len : (T4 H a b c p A B C P).length = H.length := by unfold T4; simp
theorem T4.ga (D : Ds4 H.length a b c p) : (T4 H a b c p A B C P)[a]? = some A := by
  unfold T4; rw [List.getElem?_set_ne (Ne.symm D.ap), List.getElem?_set_ne (Ne.symm D.ac), List.getElem?_set_ne (Ne.symm D.ab), List.getElem?_set_self D.la]
theorem T4.gb (D : Ds4 H.length a b c p) : (T4 H a b c p A B C P)[b]? = some B := by
  unfold T4; rw [List.getElem?_set_ne (Ne.symm D.bp), List.getElem?_set_ne (Ne.symm D.bc), List.getElem?_set_self (by simpa using D.lb)]
theorem T4.gc (D : Ds4 H.length a b c p) : (T4 H a b c p A B C P)[c]? = some C := by
  unfold T4; rw [List.getElem?_set_ne (Ne.symm D.cp), List.getElem?_set_self (by simpa using D.lc)]
theorem T4.gp (D : Ds4 H.length a b c p) : (T4 H a b c p A B C P)[p]? = some P := by
  unfold T4; rw [List.getElem?_set_self (by simpa using D.lp)]
theorem T4.gaA (D : Ds4 H.length a b c p) : (T4 H a b c p A B C P ++ L)[a]? = some A := by rw [List.getElem?_append_left (by rw [T4.len]; exact D.la), T4.ga D]
theorem T4.gbA (D : Ds4 H.length a b c p) : (T4 H a b c p A B C P ++ L)[b]? = some B := by rw [List.getElem?_append_left (by rw [T4.len]; exact D.lb), T4.gb D]
theorem T4.gcA (D : Ds4 H.length a b c p) : (T4 H a b c p A B C P ++ L)[c]? = some C := by rw [List.getElem?_append_left (by rw [T4.len]; exact D.lc), T4.gc D]
theorem T4.gpA (D : Ds4 H.length a b c p) : (T4 H a b c p A B C P ++ L)[p]? = some P := by rw [List.getElem?_append_left (by rw [T4.len]; exact D.lp), T4.gp D]
theorem T4.sp (D : Ds4 H.length a b c p) : (T4 H a b c p A B C P).set p X = T4 H a b c p A B C X := by unfold T4; rw [List.set_set]
theorem T4.sc (D : Ds4 H.length a b c p) : (T4 H a b c p A B C P).set c X = T4 H a b c p A B X P := by unfold T4; rw [List.set_comm _ _ (Ne.symm D.cp), List.set_set]
theorem T4.sb (D : Ds4 H.length a b c p) : (T4 H a b c p A B C P).set b X = T4 H a b c p A X C P := by
  unfold T4; rw [List.set_comm _ _ (Ne.symm D.bp), List.set_comm _ _ (Ne.symm D.bc), List.set_set]
theorem T4.sa (D : Ds4 H.length a b c p) : (T4 H a b c p A B C P).set a X = T4 H a b c p X B C P := by
  unfold T4; rw [List.set_comm _ _ (Ne.symm D.ap), List.set_comm _ _ (Ne.symm D.ac), List.set_comm _ _ (Ne.symm D.ab), List.set_set]
theorem T4.spA (D : Ds4 H.length a b c p) : (T4 H a b c p A B C P ++ L).set p X = T4 H a b c p A B C X ++ L := by rw [List.set_append_left _ _ (by rw [T4.len]; exact D.lp), T4.sp D]
theorem T4.scA (D : Ds4 H.length a b c p) : (T4 H a b c p A B C P ++ L).set c X = T4 H a b c p A B X P ++ L := by rw [List.set_append_left _ _ (by rw [T4.len]; exact D.lc), T4.sc D]
theorem T4.sbA (D : Ds4 H.length a b c p) : (T4 H a b c p A B C P ++ L).set b X = T4 H a b c p A X C P ++ L := by rw [List.set_append_left _ _ (by rw [T4.len]; exact D.lb), T4.sb D]
theorem T4.saA (D : Ds4 H.length a b c p) : (T4 H a b c p A B C P ++ L).set a X = T4 H a b c p X B C P ++ L := by rw [List.set_append_left _ _ (by rw [T4.len]; exact D.la), T4.sa D]
theorem T4.self (ha : H[a]? = some A) (hb : H[b]? = some B) (hc : H[c]? = some C) (hp : H[p]? = some P) : T4 H a b c p A B C P = H := by
  unfold T4; rw [set_self ha, set_self hb, set_self hc, set_self hp]
theorem closed_setB {H : Hp} (h : Closed H) (id : Nat) (o : AO) (ho : ∀ c ∈ o.cs, bnd H.length c) : Closed (H.set id o) := by
  intro i q hq c hc
  rw [List.length_set]
  by_cases e : i = id
  · subst e
    rw [List.getElem?_set] at hq
    simp only [if_true] at hq
    split at hq
    · cases hq; exact ho c hc
    · cases hq
  · rw [List.getElem?_set_ne (Ne.symm e)] at hq
    exact h i q hq c hc
theorem T4.closed (D : Ds4 H.length a b c p) (h : Closed (T4 H a b c p A B C P)) (ha : ∀ x ∈ A'.cs, bnd H.length x) (hb : ∀ x ∈ B'.cs, bnd H.length x) (hc : ∀ x ∈ C'.cs, bnd H.length x) (hp : ∀ x ∈ P'.cs, bnd H.length x) : Closed (T4 H a b c p A' B' C' P') := by
  have h1 := closed_setB h a A' (by rw [T4.len]; exact ha)
  rw [T4.sa D] at h1
  have h2 := closed_setB h1 b B' (by rw [T4.len]; exact hb)
  rw [T4.sb D] at h2
  have h3 := closed_setB h2 c C' (by rw [T4.len]; exact hc)
  rw [T4.sc D] at h3
  have h4 := closed_setB h3 p P' (by rw [T4.len]; exact hp)
  rwa [T4.sp D] at h4
theorem hget_i {id ver el sz off : Nat} {ro : Bool} {cs : List LV} (h : H[id]? = some ⟨ver, ro, el, sz, cs⟩) : hget H id ver off = cs[off]? := by simp [hget, h]
theorem hgets_i {id ver el sz off n : Nat} {ro : Bool} {cs : List LV} (h : H[id]? = some ⟨ver, ro, el, sz, cs⟩) (hn : off + n ≤ cs.length) : hgets H id ver off n = some ((cs.drop off).take n) := by simp [hgets, h, hn]
theorem liveO_i {id ver el sz : Nat} {ro : Bool} {cs : List LV} (h : H[id]? = some ⟨ver, ro, el, sz, cs⟩) : liveO H id ver = true := by simp [liveO, h]
theorem hput_i {id ver el sz off : Nat} {cs ys : List LV} (h : H[id]? = some ⟨ver, false, el, sz, cs⟩) (h1 : off + ys.length ≤ cs.length) : hput H id ver off ys = some (H.set id ⟨ver, false, el, sz, sets cs off ys⟩) := by
  simp [hput, h, h1]
end
theorem int_bndI (k : IntKind) (xs : List Int) (n : Nat) : ∀ c ∈ xs.map (LV.int k), bnd n c := by
  intro c hc; obtain ⟨_, _, rfl⟩ := List.mem_map.1 hc; exact trivial
end Go.Proofs.Ytfofkebkcjkjeaa
