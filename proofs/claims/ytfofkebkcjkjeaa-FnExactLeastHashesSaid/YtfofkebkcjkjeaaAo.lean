/- The abstract machine in use: what is read, loops over slots. -/
import Derived.Test.YtfofkebkcjkjeaaAt
import Derived.Test.YtfofkebkcjkjeaaSl
import Derived.Test.YtfofkebkcjkjeaaAp
import Derived.Test.YtfofkebkcjkjeaaAq
import Derived.Lib.Hide
namespace Go.Proofs.Ytfofkebkcjkjeaa
open Go.RowKit
set_option linter.unusedSimpArgs false
set_option linter.unusedVariables false
set_option linter.unusedSectionVars false

theorem FunH_intro {P : Program} {g : FuncId} {args : List LV} {H : Hp} {Q : LV → Hp → Prop} {X : LV} {Y : Hp} (h : FunH P g args H fun r H' => r = X ∧ H' = Y) (hk : Q X Y) : FunH P g args H Q :=
  h.mono fun r H' ⟨e1, e2⟩ => by rw [e1, e2]; exact hk
theorem AQ_intro {P : Program} {g : FuncId} {args : List LV} {H : Hp} {K : LV → Prop} {X : LV} (h : FunH P g args H fun r H' => r = X ∧ H' = H) (hk : K X) : ∃ x, FunH P g args H (fun r H' => r = x ∧ H' = H) ∧ K x := ⟨X, h, hk⟩
/-! The heap behind the caller's. -/
theorem hp_get0 (H K : Hp) : (H ++ K)[H.length]? = K[0]? := by rw [List.getElem?_append_right (Nat.le_refl _), Nat.sub_self]
theorem hp_getj (H K : Hp) (j : Nat) : (H ++ K)[H.length + j]? = K[j]? := by rw [List.getElem?_append_right (by omega), Nat.add_sub_cancel_left]
theorem hp_set0 (H K : Hp) (o : AO) : (H ++ K).set H.length o = H ++ K.set 0 o := by rw [List.set_append_right _ _ (Nat.le_refl _), Nat.sub_self]
theorem hp_setj (H K : Hp) (j : Nat) (o : AO) : (H ++ K).set (H.length + j) o = H ++ K.set j o := by rw [List.set_append_right _ _ (by omega), Nat.add_sub_cancel_left]

theorem w64 (x : Int) (h1 : -9223372036854775808 ≤ x) (h2 : x ≤ 9223372036854775807) : IntKind.i64.wrap x = x := by rw [IntKind.wrap_i64]; omega
theorem wu64 (x : Int) (h1 : 0 ≤ x) (h2 : x ≤ 18446744073709551615) : IntKind.u64.wrap x = x := by
  simp [IntKind.wrap, IntKind.bits, IntKind.signed]
  omega

/-! Slices of one-cell elements. -/
def szO (H : Hp) (id : Nat) : Nat := match H[id]? with
  | some o => o.sz
  | none => 0
/-- One-cell elements, and no less room than elements. -/
def sz1 (H : Hp) : LV → Prop
  | .sl id _ _ n cap => szO H id = 1 ∧ ∀ k, cap = some k → n ≤ k
  | _ => True
def RdL (H : Hp) (x : LV) (cs : List LV) : Prop := lenOf x = some cs.length ∧ cellsOf H 1 x = some cs ∧ sz1 H x

theorem hget_some {H : Hp} {id ver off n : Nat} {cs : List LV} (h : hgets H id ver off n = some cs) : id < H.length ∧ liveO H id ver = true ∧ cs.length = n ∧ ∀ k, k < n → hget H id ver (off + k) = cs[k]? := by
  unfold hgets at h
  cases h1 : H[id]? with
  | none => rw [h1] at h; cases h
  | some o =>
    rw [h1] at h
    simp only at h
    split at h
    case isFalse => cases h
    rename_i hc
    cases h
    refine ⟨?_, by simp [liveO, h1, hc.1], by simp; omega, fun k hk => ?_⟩
    · rcases Nat.lt_or_ge id H.length with h | h
      · exact h
      · simp [List.getElem?_eq_none h] at h1
    · simp [hget, h1, hc.1, List.getElem?_take, hk]

theorem RdL.len {H : Hp} {x : LV} {cs : List LV} (h : RdL H x cs) : lenOf x = some cs.length := h.1
theorem RdL.cells {H : Hp} {x : LV} {cs : List LV} (h : RdL H x cs) : cellsOf H 1 x = some cs := h.2.1

theorem RdL.cases {H : Hp} {x : LV} {cs : List LV} (h : RdL H x cs) : (cs = [] ∧ (x = .nils ∨ x = .emp)) ∨ ∃ id ver off cap, x = .sl id ver off cs.length cap ∧ hgets H id ver off cs.length = some cs := by
  obtain ⟨h1, h2, h3⟩ := h
  cases x <;> simp only [lenOf, cellsOf] at h1 h2 <;> try (cases h1; done)
  case nils => cases h2; exact Or.inl ⟨rfl, Or.inl rfl⟩
  case emp => cases h2; exact Or.inl ⟨rfl, Or.inr rfl⟩
  case sl id ver off n cap =>
    simp only [Option.some.injEq] at h1
    subst h1
    exact Or.inr ⟨id, ver, off, cap, rfl, by simpa using h2⟩

theorem hgets_app {H : Hp} (K : Hp) {id ver off n : Nat} (h : id < H.length) : hgets (H ++ K) id ver off n = hgets H id ver off n := by
  unfold hgets; rw [List.getElem?_append_left h]
theorem hget_app {H : Hp} (K : Hp) {id ver off : Nat} (h : id < H.length) : hget (H ++ K) id ver off = hget H id ver off := by
  unfold hget; rw [List.getElem?_append_left h]
theorem liveO_app {H : Hp} (K : Hp) {id ver : Nat} (h : id < H.length) : liveO (H ++ K) id ver = liveO H id ver := by
  unfold liveO; rw [List.getElem?_append_left h]

theorem RdL.app {H : Hp} {x : LV} {cs : List LV} (h : RdL H x cs) (K : Hp) : RdL (H ++ K) x cs := by
  refine ⟨h.1, ?_⟩
  have h3 := h.2.2
  rcases h.cases with ⟨rfl, rfl | rfl⟩ | ⟨id, ver, off, cap, rfl, hg⟩
  · exact ⟨rfl, trivial⟩
  · exact ⟨rfl, trivial⟩
  · simp only [cellsOf, Nat.mul_one]
    refine ⟨by rw [hgets_app K (hget_some hg).1]; exact hg, ?_, h3.2⟩
    have := h3.1
    unfold szO at this ⊢
    rwa [List.getElem?_append_left (hget_some hg).1]

theorem RdL.set {H : Hp} {x : LV} {cs : List LV} (h : RdL H x cs) {i : Nat} {o o' : AO} (hi : H[i]? = some o) (hx : ∀ ver off n cap, x ≠ .sl i ver off n cap) : RdL (H.set i o') x cs := by
  refine ⟨h.1, ?_⟩
  have h3 := h.2.2
  rcases h.cases with ⟨rfl, rfl | rfl⟩ | ⟨id, ver, off, cap, rfl, hg⟩
  · exact ⟨rfl, trivial⟩
  · exact ⟨rfl, trivial⟩
  · have hne : i ≠ id := fun e => hx ver off cs.length cap (by rw [e])
    simp only [cellsOf, Nat.mul_one]
    refine ⟨?_, ?_, h3.2⟩
    · rw [← hg]
      unfold hgets
      rw [List.getElem?_set_ne hne]
    · have := h3.1
      unfold szO at this ⊢
      rwa [List.getElem?_set_ne hne]

theorem RdL.idx {H : Hp} {x : LV} {cs : List LV} (h : RdL H x cs) {i : Int} (h0 : 0 ≤ i) (h1 : i < cs.length) : idxP H 1 i x = some (ptrOf x i.toNat) := by
  rcases h.cases with ⟨rfl, _⟩ | ⟨id, ver, off, cap, rfl, hg⟩
  · simp at h1; omega
  · simp [idxP, ptrOf, h0, h1, (hget_some hg).2.1]

theorem RdL.ld {H : Hp} {x : LV} {cs : List LV} (h : RdL H x cs) {k : Nat} (hk : k < cs.length) : hgetP H (ptrOf x k) = cs[k]? := by
  rcases h.cases with ⟨rfl, _⟩ | ⟨id, ver, off, cap, rfl, hg⟩
  · simp at hk
  · simp only [ptrOf, hgetP]
    exact (hget_some hg).2.2.2 k hk

theorem RdL.idxA {H : Hp} {x : LV} {cs : List LV} (h : RdL H x cs) (K : Hp) {i : Int} (h0 : 0 ≤ i) (h1 : i < cs.length) : idxP (H ++ K) 1 i x = some (ptrOf x i.toNat) := (h.app K).idx h0 h1

section
variable {α : Type} [Inhabited α] {f : α → LV} {xs : List α} {H : Hp} {x : LV}
theorem RdL.lenm (h : RdL H x (xs.map f)) : lenOf x = some xs.length := by rw [h.1, List.length_map]
theorem RdL.idxm (h : RdL H x (xs.map f)) {i : Int} (h0 : 0 ≤ i) (h1 : i < xs.length) : idxP H 1 i x = some (ptrOf x i.toNat) := h.idx h0 (by simpa using h1)
theorem RdL.idxmA (h : RdL H x (xs.map f)) (K : Hp) {i : Int} (h0 : 0 ≤ i) (h1 : i < xs.length) : idxP (H ++ K) 1 i x = some (ptrOf x i.toNat) := (h.app K).idx h0 (by simpa using h1)
theorem RdL.ldm (h : RdL H x (xs.map f)) {k : Nat} (hk : k < xs.length) : hgetP H (ptrOf x k) = some (f (ix xs k)) := by
  rw [h.ld (by simpa using hk), List.getElem?_map, ix_get? xs k hk]; rfl
theorem RdL.ldmA (h : RdL H x (xs.map f)) (K : Hp) {k : Nat} (hk : k < xs.length) : hgetP (H ++ K) (ptrOf x k) = some (f (ix xs k)) := (h.app K).ldm hk
end

theorem RdL.isCell {H : Hp} {x : LV} {cs : List LV} (h : RdL H x cs) : x.isCell = true := by
  rcases h.cases with ⟨_, rfl | rfl⟩ | ⟨id, ver, off, cap, rfl, _⟩ <;> rfl
theorem RdL.cellsL {H : Hp} {x : LV} {cs : List LV} (h : RdL H x cs) : cellsL x = [x] := by
  rcases h.cases with ⟨_, rfl | rfl⟩ | ⟨id, ver, off, cap, rfl, _⟩ <;> rfl
theorem RdL.cellsA {H : Hp} {x : LV} {cs : List LV} (h : RdL H x cs) (K : Hp) : cellsOf (H ++ K) 1 x = some cs := (h.app K).2.1

/-! Literal heaps. -/
section
variable {H K : Hp} {v ver off n m j : Nat} {ro : Bool} {e s : Nat} {cs xs news : List LV} {o : AO}
theorem hget_h0 : hget (H ++ K) H.length ver off = hget K 0 ver off := by unfold hget; rw [hp_get0]
theorem hget_hj : hget (H ++ K) (H.length + j) ver off = hget K j ver off := by unfold hget; rw [hp_getj]
theorem hget_c0 : hget (⟨v, ro, e, s, cs⟩ :: K) 0 v off = cs[off]? := by simp [hget]
theorem hget_cs : hget (o :: K) (j + 1) ver off = hget K j ver off := by simp [hget]
theorem hgets_h0 : hgets (H ++ K) H.length ver off n = hgets K 0 ver off n := by unfold hgets; rw [hp_get0]
theorem hgets_hj : hgets (H ++ K) (H.length + j) ver off n = hgets K j ver off n := by unfold hgets; rw [hp_getj]
theorem hgets_c0 (h : off + n ≤ cs.length) : hgets (⟨v, ro, e, s, cs⟩ :: K) 0 v off n = some ((cs.drop off).take n) := by simp [hgets, h]
theorem hgets_cs : hgets (o :: K) (j + 1) ver off n = hgets K j ver off n := by simp [hgets]
theorem liveO_h0 : liveO (H ++ K) H.length ver = liveO K 0 ver := by unfold liveO; rw [hp_get0]
theorem liveO_hj : liveO (H ++ K) (H.length + j) ver = liveO K j ver := by unfold liveO; rw [hp_getj]
theorem liveO_c0 : liveO (⟨v, ro, e, s, cs⟩ :: K) 0 v = true := by simp [liveO]
theorem liveO_cs : liveO (o :: K) (j + 1) ver = liveO K j ver := by simp [liveO]
theorem hput_h0 : hput (H ++ K) H.length ver off xs = (hput K 0 ver off xs).map (H ++ ·) := by
  unfold hput; rw [hp_get0]
  cases K[0]? with
  | none => rfl
  | some o => simp only []; split <;> simp [hp_set0]
theorem hput_hj : hput (H ++ K) (H.length + j) ver off xs = (hput K j ver off xs).map (H ++ ·) := by
  unfold hput; rw [hp_getj]
  cases K[j]? with
  | none => rfl
  | some o => simp only []; split <;> simp [hp_setj]
theorem hput_c0 (h : off + xs.length ≤ cs.length) : hput (⟨v, false, e, s, cs⟩ :: K) 0 v off xs = some (⟨v, false, e, s, sets cs off xs⟩ :: K) := by simp [hput, h]
theorem hput_cs : hput (o :: K) (j + 1) ver off xs = (hput K j ver off xs).map (o :: ·) := by
  unfold hput
  simp only [List.getElem?_cons_succ]
  cases K[j]? with
  | none => rfl
  | some q => simp only []; split <;> simp
theorem hgetP_ptr {id : Nat} : hgetP H (.ptr id ver off) = hget H id ver off := rfl
theorem hgetsP_ptr {id : Nat} : hgetsP H n (.ptr id ver off) = hgets H id ver off n := rfl
theorem hputP_ptr {id : Nat} : hputP H xs (.ptr id ver off) = hput H id ver off xs := rfl
theorem fldP_ptr {id fo : Nat} (h : liveO H id ver = true) : fldP H fo (.ptr id ver off) = some (.ptr id ver (off + fo)) := by simp [fldP, h]
theorem idxP_sl {id sz : Nat} {cap : Option Nat} {i : Int} (h0 : 0 ≤ i) (h1 : i < n) (h : liveO H id ver = true) : idxP H sz i (.sl id ver off n cap) = some (.ptr id ver (off + i.toNat * sz)) := by simp [idxP, h0, h1, h]
theorem arrP_ptr {id sz : Nat} {i : Int} (h0 : 0 ≤ i) (h1 : i < n) (h : liveO H id ver = true) : arrP H sz n i (.ptr id ver off) = some (.ptr id ver (off + i.toNat * sz)) := by simp [arrP, h0, h1, h]
theorem lenOf_slv {id : Nat} {cap : Option Nat} : lenOf (.sl id ver off n cap) = some n := rfl
theorem lenOf_nils : lenOf .nils = some 0 := rfl
theorem lenOf_emp : lenOf .emp = some 0 := rfl
theorem cellsOf_sl {id sz : Nat} {cap : Option Nat} : cellsOf H sz (.sl id ver off n cap) = hgets H id ver off (n * sz) := rfl
theorem cellsOf_nils {sz : Nat} : cellsOf H sz .nils = some [] := rfl
theorem cellsOf_emp {sz : Nat} : cellsOf H sz .emp = some [] := rfl
theorem sets_nil : sets cs off [] = cs := rfl
theorem sets_one {x : LV} : sets cs off [x] = cs.set off x := rfl
theorem sets_cons {x : LV} : sets cs off (x :: xs) = sets (cs.set off x) (off + 1) xs := rfl
theorem aappO_grow {td : TD} {b : Nat} {zs : List LV} {id : Nat} (h1 : cs.length = n) (h2 : cs.all LV.isCell = true) (h3 : (n + m) * b ≤ 140737488355328) (h4 : n + m ≤ 17592186044416) (h5 : 0 < m) :
    aappO ⟨td, 1, b, zs⟩ e H id v 0 n none m news (some ⟨v, false, e, 1, cs⟩) = some (.sl id (v + 1) 0 (n + m) none, H.set id ⟨v + 1, false, e, 1, cs ++ news⟩) := by
  unfold aappO
  simp only [ne_eq, not_true_eq_false, if_false, Bool.false_eq_true]
  rw [if_neg (by simp only [Nat.mul_one]; omega), if_pos ⟨trivial, by omega, h2, h3, h4⟩]
theorem aappO_in {td : TD} {b : Nat} {zs : List LV} {id : Nat} (h1 : off + (n + m) ≤ cs.length) :
    aappO ⟨td, 1, b, zs⟩ e H id v off n none m news (some ⟨v, false, e, 1, cs⟩) = some (.sl id v off (n + m) none, H.set id ⟨v, false, e, 1, sets cs (off + n) news⟩) := by
  unfold aappO
  simp only [ne_eq, not_true_eq_false, if_false, Bool.false_eq_true]
  rw [if_pos (by simp only [Nat.mul_one]; exact h1)]
  simp
theorem amake_ok {te : TE} {el l c : Nat} (h1 : l ≤ c) (h2 : c ≤ 17592186044416) (h3 : te.by_ * c ≤ 140737488355328) :
    amake te el H (l : Int) (c : Int) = some (.sl H.length 0 0 l none, H ++ [⟨0, false, el, te.sz, zeros te.zs c⟩]) := by
  unfold amake
  have e : ((te.by_ : Int) * (c : Int)) = ((te.by_ * c : Nat) : Int) := by push_cast; rfl
  rw [if_pos ⟨by omega, by omega, by omega, by omega⟩]
  simp
theorem roomOf_ge (h : cs.length ≥ off + n * s) : n ≤ roomOf ⟨v, ro, e, s, cs⟩ off n none := by
  unfold roomOf
  simp only
  split
  · exact Nat.le_max_left _ _
  · exact Nat.le_refl _
theorem roomOf_ge' {o : AO} : n ≤ roomOf o off n none := by
  unfold roomOf
  simp only
  split
  · exact Nat.le_max_left _ _
  · exact Nat.le_refl _
theorem szO_h0 : szO (H ++ K) H.length = szO K 0 := by unfold szO; rw [hp_get0]
theorem szO_hj : szO (H ++ K) (H.length + j) = szO K j := by unfold szO; rw [hp_getj]
theorem szO_c0 : szO (⟨v, ro, e, s, cs⟩ :: K) 0 = s := rfl
theorem szO_cs : szO (o :: K) (j + 1) = szO K j := by simp [szO]
theorem liveO_get {id : Nat} (h : liveO H id ver = true) : ∃ o, H[id]? = some o ∧ o.ver = ver := by
  unfold liveO at h
  split at h
  · rename_i o ho; exact ⟨o, ho, by simpa using h⟩
  · cases h
theorem asliceS_hi {te : TE} {id : Nat} {k : IntKind} {hi : Int} (h : liveO H id ver = true) (hs : szO H id = te.sz) (h0 : 0 ≤ hi) (h1 : hi ≤ n) :
    asliceS te H (.sl id ver off n none) none (some (.int k hi)) none = some (.sl id ver off hi.toNat none) := by
  obtain ⟨o, ho, rfl⟩ := liveO_get h
  have e : o.sz = te.sz := by simpa [szO, ho] using hs
  have := roomOf_ge' (o := o) (off := off) (n := n)
  simp [asliceS, ho, e, asliceB, h0, show hi ≤ (roomOf o off n none : Nat) by omega]
theorem asliceS_lo {te : TE} {id : Nat} {k : IntKind} {lo : Int} (h : liveO H id ver = true) (hs : szO H id = te.sz) (h0 : 0 ≤ lo) (h1 : lo ≤ n) :
    asliceS te H (.sl id ver off n none) (some (.int k lo)) none none = some (.sl id ver (off + lo.toNat * te.sz) (n - lo.toNat) none) := by
  obtain ⟨o, ho, rfl⟩ := liveO_get h
  have e : o.sz = te.sz := by simpa [szO, ho] using hs
  have := roomOf_ge' (o := o) (off := off) (n := n)
  simp [asliceS, ho, e, asliceB, h0, h1]
theorem asliceS_lohi {te : TE} {id : Nat} {k k' : IntKind} {lo hi : Int} (h : liveO H id ver = true) (hs : szO H id = te.sz) (h0 : 0 ≤ lo) (h1 : lo ≤ hi) (h2 : hi ≤ n) :
    asliceS te H (.sl id ver off n none) (some (.int k lo)) (some (.int k' hi)) none = some (.sl id ver (off + lo.toNat * te.sz) (hi.toNat - lo.toNat) none) := by
  obtain ⟨o, ho, rfl⟩ := liveO_get h
  have e : o.sz = te.sz := by simpa [szO, ho] using hs
  have := roomOf_ge' (o := o) (off := off) (n := n)
  obtain ⟨l, rfl⟩ := Int.eq_ofNat_of_zero_le h0
  obtain ⟨h', rfl⟩ := Int.eq_ofNat_of_zero_le (show 0 ≤ hi by omega)
  have e2 : (h' : Int) ≤ (roomOf o off n none : Nat) := by omega
  have e3 : l ≤ h' := by omega
  have e4 : h' ≤ roomOf o off n none := by omega
  simp [asliceS, ho, e, asliceB, e4, e3]
theorem asliceS_all {te : TE} {id : Nat} (h : liveO H id ver = true) (hs : szO H id = te.sz) :
    asliceS te H (.sl id ver off n none) none none none = some (.sl id ver off n none) := by
  obtain ⟨o, ho, rfl⟩ := liveO_get h
  have e : o.sz = te.sz := by simpa [szO, ho] using hs
  have := roomOf_ge' (o := o) (off := off) (n := n)
  simp [asliceS, ho, e, asliceB]
/-- A part of a slice. -/
def subOf : LV → Nat → Nat → LV
  | .sl id ver off _ cap, l, n => .sl id ver (off + l) n (cap.map (· - l))
  | x, _, _ => x
theorem RdL.slice {te : TE} {x : LV} {k k' : IntKind} {lo hi : Int} (h : RdL H x cs) (hs : te.sz = 1) (h0 : 0 ≤ lo) (h1 : lo ≤ hi) (h2 : hi ≤ cs.length) :
    asliceS te H x (some (.int k lo)) (some (.int k' hi)) none = some (subOf x lo.toNat (hi.toNat - lo.toNat)) := by
  obtain ⟨l, rfl⟩ := Int.eq_ofNat_of_zero_le h0
  obtain ⟨h', rfl⟩ := Int.eq_ofNat_of_zero_le (show 0 ≤ hi by omega)
  have h3 := h.2.2
  rcases h.cases with ⟨rfl, rfl | rfl⟩ | ⟨id, ver, off, cap, rfl, hg⟩
  · have e1 : l = 0 := by simp at h2; omega
    have e2 : h' = 0 := by simp at h2; omega
    subst e1; subst e2
    simp [asliceS, asliceB, subOf]
  · have e1 : l = 0 := by simp at h2; omega
    have e2 : h' = 0 := by simp at h2; omega
    subst e1; subst e2
    simp [asliceS, asliceB, subOf]
  · obtain ⟨_, hl, _, _⟩ := hget_some hg
    obtain ⟨o, ho, rfl⟩ := liveO_get hl
    have e : o.sz = 1 := by simpa [szO, ho] using h3.1
    have e2 : h' ≤ roomOf o off cs.length cap := by
      cases cap with
      | none => have := roomOf_ge' (o := o) (off := off) (n := cs.length); omega
      | some k0 => have := h3.2 k0 rfl; simp only [roomOf]; omega
    have e3 : l ≤ h' := by omega
    simp [asliceS, ho, e, hs, asliceB, e2, e3, subOf]
theorem RdL.sub {x : LV} (h : RdL H x cs) {l m : Nat} (h1 : l + m ≤ cs.length) (hp : 0 < m) : RdL H (subOf x l m) ((cs.drop l).take m) := by
  have h3 := h.2.2
  rcases h.cases with ⟨rfl, _⟩ | ⟨id, ver, off, cap, rfl, hg⟩
  · simp at h1; omega
  · refine ⟨by simp [subOf, lenOf]; omega, ?_, h3.1, ?_⟩
    · simp only [subOf, cellsOf, Nat.mul_one]
      unfold hgets at hg ⊢
      cases ho : H[id]? with
      | none => rw [ho] at hg; cases hg
      | some o =>
        rw [ho] at hg
        simp only at hg ⊢
        split at hg
        case isFalse => cases hg
        rename_i hc
        rw [if_pos ⟨hc.1, by omega⟩]
        have hcs := Option.some.inj hg
        conv => rhs; rw [← hcs]
        congr 1
        rw [List.drop_take, List.take_take, List.drop_drop]
        congr 1
        omega
    · intro k hk
      cases cap with
      | none => cases hk
      | some k0 =>
        have := h3.2 k0 rfl
        simp only [Option.map_some, Option.some.injEq] at hk
        omega
theorem zeros_one {z : LV} : zeros [z] n = List.replicate n z := by simp [zeros]
end
theorem all_int (k : IntKind) (xs : List Int) : (xs.map (LV.int k)).all LV.isCell = true := by simp [LV.isCell]
theorem all_flt (k : FloatKind) (xs : List (Option Nat)) : (xs.map (LV.flt k)).all LV.isCell = true := by simp [LV.isCell]
theorem all_bool (xs : List Bool) : (xs.map LV.bool).all LV.isCell = true := by simp [LV.isCell]
theorem map_ix {α : Type} [Inhabited α] {f : α → LV} {xs : List α} {k : Nat} (h : k < xs.length) : (xs.map f)[k]? = some (f (ix xs k)) := by rw [List.getElem?_map, ix_get? xs k h]; rfl

/-! Loops whose state is told by slots. -/
def junkAll (tm : List LV) (ms : List Nat) : List LV := ms.foldl (fun tm i => tm.set i .junk) tm
def setAll (tm : List LV) (vs : List (Nat × LV)) : List LV := vs.foldl (fun tm p => tm.set p.1 p.2) tm

theorem AW_loopV {P : Program} {He : Hp} {tm : List LV} {H : Hp} {Q : Exit → List LV → Hp → Prop} {c : Code} {ι : Type} (ms : List Nat) (vals : ι → List (Nat × LV)) (Hf : ι → Hp) (ok : ι → Prop) (m : ι → Nat) (i0 : ι) (h0 : ok i0)
    (hj : JL tm (setAll (junkAll tm ms) (vals i0))) (hH : H = Hf i0)
    (hr : ∀ i, ok i → ∀ K : List LV → Hp → Prop, (∀ tm' H' j, ok j → m j < m i → JL tm' (setAll (junkAll tm ms) (vals j)) → H' = Hf j → K tm' H') → AW P He c (setAll (junkAll tm ms) (vals i)) (Hf i) (thenA K Q)) : AW P He (.loop c) tm H Q := by
  subst hH
  refine AW_loop (fun i => (setAll (junkAll tm ms) (vals i), Hf i)) ok m i0 h0 (Wk.junk hj) fun i hi K hK => hr i hi K fun tm' H' j h1 h2 h3 h4 => ?_
  subst h4
  exact hK tm' _ j h1 h2 (Wk.junk h3)

/-! The end of a body: a result that leads nowhere; the heap as it was. -/
theorem Wk.cut {He K : Hp} {tm : List LV} (hc : Closed He) : Wk He tm (He ++ K) (tm.map (renT (keepσ He.length []))) He := by
  have := Wk.keep (He := He) (H1 := He) (K := K) (tm := tm) [] (Nat.le_refl _) List.nodup_nil (by intro j hj; cases hj) hc
  simpa using this
theorem EndA_same {T : Tab} {He : Hp} {rs : List ResultVar} {Q : LV → Hp → Prop} {e : Exit} {tm : List LV} {H : Hp} {r : LV} (he : e = .normal ∨ e = .ret) (h : resA T tm H rs = some r) (hq : Q r H) : EndA T He rs Q e tm H := ⟨he, r, r, H, h, Wk.refl, hq⟩
theorem EndA_cut {T : Tab} {He K : Hp} {rs : List ResultVar} {Q : LV → Hp → Prop} {e : Exit} {tm : List LV} {r : LV} (hc : Closed He) (he : e = .normal ∨ e = .ret) (h : resA T tm (He ++ K) rs = some r) (hr : renT (keepσ He.length []) r = r) (hq : Q r He) : EndA T He rs Q e tm (He ++ K) :=
  ⟨he, r, r, He, h, by have := Wk.cut (K := K) (tm := [r]) hc; simpa [hr] using this, hq⟩
end Go.Proofs.Ytfofkebkcjkjeaa
