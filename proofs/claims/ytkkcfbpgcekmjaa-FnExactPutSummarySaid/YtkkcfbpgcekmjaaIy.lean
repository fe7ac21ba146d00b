/- Rows cut at a place; Insert at rows of numbers. -/
import Derived.Test.YtkkcfbpgcekmjaaIb
import Derived.Test.YtkkcfbpgcekmjaaNu
namespace Go.Proofs.Ytkkcfbpgcekmjaa
open Go.RowKit
set_option linter.unusedSimpArgs false
set_option linter.unusedVariables false
set_option maxRecDepth 100000

def cutHi : LV → Nat → LV
  | .sl id ver off _ cap, i => .sl id ver off i cap
  | x, _ => x
def cutLo : LV → Nat → LV
  | .sl id ver off n cap, i => .sl id ver (off + i) (n - i) (cap.map (· - i))
  | x, _ => x
theorem hgets_sub {H : Hp} {id ver off n l m : Nat} {cs : List LV} (h : hgets H id ver off n = some cs) (hl : l + m ≤ n) : hgets H id ver (off + l) m = some ((cs.drop l).take m) := by
  unfold hgets at h ⊢
  cases ho : H[id]? with
  | none => rw [ho] at h; cases h
  | some o =>
    rw [ho] at h
    simp only at h ⊢
    split at h
    case isFalse => cases h
    rename_i hc
    rw [if_pos ⟨hc.1, by omega⟩]
    have hcs := Option.some.inj h
    rw [← hcs, List.drop_take, List.take_take, List.drop_drop]
    congr 2
    omega
theorem RdL.hiE {te : TE} {H : Hp} {x : LV} {cs : List LV} {i : Nat} (h : RdL H x cs) (hs : te.sz = 1) (hi : i ≤ cs.length) : asliceS te H x none (some (.int .i64 (i : Nat))) none = some (cutHi x i) := by
  have h3 := h.2.2
  rcases h.cases with ⟨rfl, rfl | rfl⟩ | ⟨id, ver, off, cap, rfl, hg⟩
  · have e2 : i = 0 := by simp at hi; omega
    subst e2; simp [asliceS, asliceB, cutHi]
  · have e2 : i = 0 := by simp at hi; omega
    subst e2; simp [asliceS, asliceB, cutHi]
  · obtain ⟨_, hl, _, _⟩ := hget_some hg
    obtain ⟨o, ho, rfl⟩ := liveO_get hl
    have e : o.sz = 1 := by simpa [szO, ho] using h3.1
    have e2 : i ≤ roomOf o off cs.length cap := by
      cases cap with
      | none => have := roomOf_ge' (o := o) (off := off) (n := cs.length); omega
      | some k0 => have := h3.2 k0 rfl; simp only [roomOf]; omega
    simp [asliceS, ho, e, hs, asliceB, e2, cutHi]
theorem RdL.loE {te : TE} {H : Hp} {x : LV} {cs : List LV} {i : Nat} (h : RdL H x cs) (hs : te.sz = 1) (hi : i ≤ cs.length) : asliceS te H x (some (.int .i64 (i : Nat))) none none = some (cutLo x i) := by
  have h3 := h.2.2
  rcases h.cases with ⟨rfl, rfl | rfl⟩ | ⟨id, ver, off, cap, rfl, hg⟩
  · have e2 : i = 0 := by simp at hi; omega
    subst e2; simp [asliceS, asliceB, cutLo]
  · have e2 : i = 0 := by simp at hi; omega
    subst e2; simp [asliceS, asliceB, cutLo]
  · obtain ⟨_, hl, _, _⟩ := hget_some hg
    obtain ⟨o, ho, rfl⟩ := liveO_get hl
    have e : o.sz = 1 := by simpa [szO, ho] using h3.1
    simp [asliceS, ho, e, hs, asliceB, hi, cutLo]
theorem cutHi_len {H : Hp} {x : LV} {cs : List LV} {i : Nat} (h : RdL H x cs) (hi : i ≤ cs.length) : lenOf (cutHi x i) = some i := by
  rcases h.cases with ⟨rfl, rfl | rfl⟩ | ⟨id, ver, off, cap, rfl, hg⟩
  · have : i = 0 := by simp at hi; omega
    subst this; rfl
  · have : i = 0 := by simp at hi; omega
    subst this; rfl
  · rfl
theorem cutLo_len {H : Hp} {x : LV} {cs : List LV} {i : Nat} (h : RdL H x cs) (hi : i ≤ cs.length) : lenOf (cutLo x i) = some (cs.length - i) := by
  rcases h.cases with ⟨rfl, rfl | rfl⟩ | ⟨id, ver, off, cap, rfl, hg⟩
  · have : i = 0 := by simp at hi; omega
    subst this; rfl
  · have : i = 0 := by simp at hi; omega
    subst this; rfl
  · rfl
theorem cutHi_cells {H : Hp} {x : LV} {cs : List LV} {i : Nat} (h : RdL H x cs) (hi : i ≤ cs.length) : cellsOf H 1 (cutHi x i) = some (cs.take i) := by
  rcases h.cases with ⟨rfl, rfl | rfl⟩ | ⟨id, ver, off, cap, rfl, hg⟩
  · simp [cutHi, cellsOf]
  · simp [cutHi, cellsOf]
  · have := hgets_sub (l := 0) (m := i) hg (by omega)
    simpa [cutHi, cellsOf] using this
theorem cutLo_cells {H : Hp} {x : LV} {cs : List LV} {i : Nat} (h : RdL H x cs) (hi : i ≤ cs.length) : cellsOf H 1 (cutLo x i) = some (cs.drop i) := by
  rcases h.cases with ⟨rfl, rfl | rfl⟩ | ⟨id, ver, off, cap, rfl, hg⟩
  · simp [cutLo, cellsOf]
  · simp [cutLo, cellsOf]
  · have := hgets_sub (l := i) (m := cs.length - i) hg (by omega)
    rw [List.take_of_length_le (by simp)] at this
    simpa [cutLo, cellsOf] using this
/-- A list with a thing put in at a place. -/
def insA {α : Type} (xs : List α) (i : Nat) (x : α) : List α := xs.take i ++ x :: xs.drop i
theorem insA_len {α : Type} {xs : List α} {i : Nat} {x : α} (h : i ≤ xs.length) : (insA xs i x).length = xs.length + 1 := by unfold insA; simp; omega
theorem insA_map {α β : Type} (f : α → β) (xs : List α) (i : Nat) (x : α) : (xs.map f).take i ++ f x :: (xs.map f).drop i = (insA xs i x).map f := by unfold insA; simp
theorem insA_all {α : Type} {xs : List α} {i : Nat} {x : α} {P : α → Prop} (h : ∀ y ∈ xs, P y) (hx : P x) : ∀ y ∈ insA xs i x, P y := by
  intro y hy
  rcases List.mem_append.1 hy with h1 | h1
  · exact h y (List.mem_of_mem_take h1)
  · rcases List.mem_cons.1 h1 with rfl | h1
    · exact hx
    · exact h y (List.mem_of_mem_drop h1)
theorem ins_float32_c (id ver n i vid vver vel : Nat) (xs : List (Option Nat)) (x : Option Nat) (H : Hp) (ho : H[id]? = some ⟨ver, false, 37, 1, xs.map (LV.flt .f32)⟩) (hv : H[vid]? = some ⟨vver, false, vel, 1, [(LV.flt .f32 x)]⟩) (hne : id ≠ vid) (hn : xs.length = n) (hi : i ≤ n) (hl : n ≤ 1048576) :
    FunH Try.prog (122) [.sl id ver 0 n none, .int .i64 i, .sl vid vver 0 1 none] H fun r H' => r = .sl id (ver + 1) 0 (n + 1) none ∧ H' = H.set id ⟨ver + 1, false, 37, 1, (insA xs i x).map (LV.flt .f32)⟩ := by
  rw [← insA_map]
  exact Insert_float32_c id ver n i vid vver vel (xs.map (LV.flt .f32)) (LV.flt .f32 x) H ho hv hne (by simpa using hn) hi hl
theorem ins_int64_c (id ver n i vid vver vel : Nat) (xs : List (Int)) (x : Int) (H : Hp) (ho : H[id]? = some ⟨ver, false, 2, 1, xs.map (LV.int .i64)⟩) (hv : H[vid]? = some ⟨vver, false, vel, 1, [(LV.int .i64 x)]⟩) (hne : id ≠ vid) (hn : xs.length = n) (hi : i ≤ n) (hl : n ≤ 1048576) :
    FunH Try.prog (124) [.sl id ver 0 n none, .int .i64 i, .sl vid vver 0 1 none] H fun r H' => r = .sl id (ver + 1) 0 (n + 1) none ∧ H' = H.set id ⟨ver + 1, false, 2, 1, (insA xs i x).map (LV.int .i64)⟩ := by
  rw [← insA_map]
  exact Insert_int64_c id ver n i vid vver vel (xs.map (LV.int .i64)) (LV.int .i64 x) H ho hv hne (by simpa using hn) hi hl
end Go.Proofs.Ytkkcfbpgcekmjaa
