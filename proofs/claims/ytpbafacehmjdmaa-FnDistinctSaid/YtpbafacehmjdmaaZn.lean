/- Texts Ao, Av, Ax, Au, Ay, Az, Aw, Pt, Np, Nj, Nz, of the abstract machine and its laws, in one. -/
import Derived.Test.YtpbafacehmjdmaaAt
import Derived.Test.YtpbafacehmjdmaaZp
import Derived.Lib.Hide
import Derived.Laws.Cover3
namespace Go.Proofs.Ytpbafacehmjdmaa
open Go.RowKit
set_option linter.unusedSimpArgs false
set_option linter.unusedVariables false
set_option linter.unusedSectionVars false

theorem FunH_intro {P : Program} {g : FuncId} {args : List LV} {H : Hp} {Q : LV → Hp → Prop} {X : LV} {Y : Hp} (h : FunH P g args H fun r H' => r = X ∧ H' = Y) (hk : Q X Y) : FunH P g args H Q :=
  h.mono fun r H' ⟨e1, e2⟩ => by rw [e1, e2]; exact hk
theorem AQ_intro {P : Program} {g : FuncId} {args : List LV} {H : Hp} {K : LV → Prop} {X : LV} (h : FunH P g args H fun r H' => r = X ∧ H' = H) (hk : K X) : ∃ x, FunH P g args H (fun r H' => r = x ∧ H' = H) ∧ K x := ⟨X, h, hk⟩
/-! The heap behind the caller's. -/
theorem hp_get0 (H K : Hp) : (H ++ K)[H.length]? = K[0]? := by rw [List.getElem?_append_right (Nat.le_refl _), Nat.sub_self]
theorem hp_getj (H K : Hp) (j : Nat) : (H ++ K)[H.length + j]? = K[j]? := by rw [List.getElem?_append_right (by omega), Nat.add_sub_cancel_left]
theorem hp_set0 (H K : Hp) (o : AO) : (H ++ K).set H.length o = H ++ K.set 0 o := by rw [List.set_append_right _ _ (Nat.le_refl _), Nat.sub_self]
theorem hp_setj (H K : Hp) (j : Nat) (o : AO) : (H ++ K).set (H.length + j) o = H ++ K.set j o := by rw [List.set_append_right _ _ (by omega), Nat.add_sub_cancel_left]

theorem w64 (x : Int) (h1 : -9223372036854775808 ≤ x) (h2 : x ≤ 9223372036854775807) : IntKind.i64.wrap x = x := by rw [IntKind.wrap_i64]; omega
theorem wu64 (x : Int) (h1 : 0 ≤ x) (h2 : x ≤ 18446744073709551615) : IntKind.u64.wrap x = x := by
  simp [IntKind.wrap, IntKind.bits, IntKind.signed]
  omega

/-! Slices of one-cell elements. -/
def szO (H : Hp) (id : Nat) : Nat := match H[id]? with
  | some o => o.sz
  | none => 0
/-- One-cell elements, and no less room than elements. -/
def sz1 (H : Hp) : LV → Prop
  | .sl id _ _ n cap => szO H id = 1 ∧ ∀ k, cap = some k → n ≤ k
  | _ => True
def RdL (H : Hp) (x : LV) (cs : List LV) : Prop := lenOf x = some cs.length ∧ cellsOf H 1 x = some cs ∧ sz1 H x

theorem hget_some {H : Hp} {id ver off n : Nat} {cs : List LV} (h : hgets H id ver off n = some cs) : id < H.length ∧ liveO H id ver = true ∧ cs.length = n ∧ ∀ k, k < n → hget H id ver (off + k) = cs[k]? := by
  unfold hgets at h
  cases h1 : H[id]? with
  | none => rw [h1] at h; cases h
  | some o =>
    rw [h1] at h
    simp only at h
    split at h
    case isFalse => cases h
    rename_i hc
    cases h
    refine ⟨?_, by simp [liveO, h1, hc.1], by simp; omega, fun k hk => ?_⟩
    · rcases Nat.lt_or_ge id H.length with h | h
      · exact h
      · simp [List.getElem?_eq_none h] at h1
    · simp [hget, h1, hc.1, List.getElem?_take, hk]

theorem RdL.len {H : Hp} {x : LV} {cs : List LV} (h : RdL H x cs) : lenOf x = some cs.length := h.1
theorem RdL.cells {H : Hp} {x : LV} {cs : List LV} (h : RdL H x cs) : cellsOf H 1 x = some cs := h.2.1

theorem RdL.cases {H : Hp} {x : LV} {cs : List LV} (h : RdL H x cs) : (cs = [] ∧ (x = .nils ∨ x = .emp)) ∨ ∃ id ver off cap, x = .sl id ver off cs.length cap ∧ hgets H id ver off cs.length = some cs := by
  obtain ⟨h1, h2, h3⟩ := h
  cases x <;> simp only [lenOf, cellsOf] at h1 h2 <;> try (cases h1; done)
  case nils => cases h2; exact Or.inl ⟨rfl, Or.inl rfl⟩
  case emp => cases h2; exact Or.inl ⟨rfl, Or.inr rfl⟩
  case sl id ver off n cap =>
    simp only [Option.some.injEq] at h1
    subst h1
    exact Or.inr ⟨id, ver, off, cap, rfl, by simpa using h2⟩

theorem hgets_app {H : Hp} (K : Hp) {id ver off n : Nat} (h : id < H.length) : hgets (H ++ K) id ver off n = hgets H id ver off n := by
  unfold hgets; rw [List.getElem?_append_left h]
theorem hget_app {H : Hp} (K : Hp) {id ver off : Nat} (h : id < H.length) : hget (H ++ K) id ver off = hget H id ver off := by
  unfold hget; rw [List.getElem?_append_left h]
theorem liveO_app {H : Hp} (K : Hp) {id ver : Nat} (h : id < H.length) : liveO (H ++ K) id ver = liveO H id ver := by
  unfold liveO; rw [List.getElem?_append_left h]

theorem RdL.app {H : Hp} {x : LV} {cs : List LV} (h : RdL H x cs) (K : Hp) : RdL (H ++ K) x cs := by
  refine ⟨h.1, ?_⟩
  have h3 := h.2.2
  rcases h.cases with ⟨rfl, rfl | rfl⟩ | ⟨id, ver, off, cap, rfl, hg⟩
  · exact ⟨rfl, trivial⟩
  · exact ⟨rfl, trivial⟩
  · simp only [cellsOf, Nat.mul_one]
    refine ⟨by rw [hgets_app K (hget_some hg).1]; exact hg, ?_, h3.2⟩
    have := h3.1
    unfold szO at this ⊢
    rwa [List.getElem?_append_left (hget_some hg).1]

theorem RdL.set {H : Hp} {x : LV} {cs : List LV} (h : RdL H x cs) {i : Nat} {o o' : AO} (hi : H[i]? = some o) (hx : ∀ ver off n cap, x ≠ .sl i ver off n cap) : RdL (H.set i o') x cs := by
  refine ⟨h.1, ?_⟩
  have h3 := h.2.2
  rcases h.cases with ⟨rfl, rfl | rfl⟩ | ⟨id, ver, off, cap, rfl, hg⟩
  · exact ⟨rfl, trivial⟩
  · exact ⟨rfl, trivial⟩
  · have hne : i ≠ id := fun e => hx ver off cs.length cap (by rw [e])
    simp only [cellsOf, Nat.mul_one]
    refine ⟨?_, ?_, h3.2⟩
    · rw [← hg]
      unfold hgets
      rw [List.getElem?_set_ne hne]
    · have := h3.1
      unfold szO at this ⊢
      rwa [List.getElem?_set_ne hne]

theorem RdL.idx {H : Hp} {x : LV} {cs : List LV} (h : RdL H x cs) {i : Int} (h0 : 0 ≤ i) (h1 : i < cs.length) : idxP H 1 i x = some (ptrOf x i.toNat) := by
  rcases h.cases with ⟨rfl, _⟩ | ⟨id, ver, off, cap, rfl, hg⟩
  · simp at h1; omega
  · simp [idxP, ptrOf, h0, h1, (hget_some hg).2.1]

theorem RdL.ld {H : Hp} {x : LV} {cs : List LV} (h : RdL H x cs) {k : Nat} (hk : k < cs.length) : hgetP H (ptrOf x k) = cs[k]? := by
  rcases h.cases with ⟨rfl, _⟩ | ⟨id, ver, off, cap, rfl, hg⟩
  · simp at hk
  · simp only [ptrOf, hgetP]
    exact (hget_some hg).2.2.2 k hk

theorem RdL.idxA {H : Hp} {x : LV} {cs : List LV} (h : RdL H x cs) (K : Hp) {i : Int} (h0 : 0 ≤ i) (h1 : i < cs.length) : idxP (H ++ K) 1 i x = some (ptrOf x i.toNat) := (h.app K).idx h0 h1

section
variable {α : Type} [Inhabited α] {f : α → LV} {xs : List α} {H : Hp} {x : LV}
theorem RdL.lenm (h : RdL H x (xs.map f)) : lenOf x = some xs.length := by rw [h.1, List.length_map]
theorem RdL.idxm (h : RdL H x (xs.map f)) {i : Int} (h0 : 0 ≤ i) (h1 : i < xs.length) : idxP H 1 i x = some (ptrOf x i.toNat) := h.idx h0 (by simpa using h1)
theorem RdL.idxmA (h : RdL H x (xs.map f)) (K : Hp) {i : Int} (h0 : 0 ≤ i) (h1 : i < xs.length) : idxP (H ++ K) 1 i x = some (ptrOf x i.toNat) := (h.app K).idx h0 (by simpa using h1)
theorem RdL.ldm (h : RdL H x (xs.map f)) {k : Nat} (hk : k < xs.length) : hgetP H (ptrOf x k) = some (f (ix xs k)) := by
  rw [h.ld (by simpa using hk), List.getElem?_map, ix_get? xs k hk]; rfl
theorem RdL.ldmA (h : RdL H x (xs.map f)) (K : Hp) {k : Nat} (hk : k < xs.length) : hgetP (H ++ K) (ptrOf x k) = some (f (ix xs k)) := (h.app K).ldm hk
end

theorem RdL.isCell {H : Hp} {x : LV} {cs : List LV} (h : RdL H x cs) : x.isCell = true := by
  rcases h.cases with ⟨_, rfl | rfl⟩ | ⟨id, ver, off, cap, rfl, _⟩ <;> rfl
theorem RdL.cellsL {H : Hp} {x : LV} {cs : List LV} (h : RdL H x cs) : cellsL x = [x] := by
  rcases h.cases with ⟨_, rfl | rfl⟩ | ⟨id, ver, off, cap, rfl, _⟩ <;> rfl
theorem RdL.cellsA {H : Hp} {x : LV} {cs : List LV} (h : RdL H x cs) (K : Hp) : cellsOf (H ++ K) 1 x = some cs := (h.app K).2.1

/-! Literal heaps. -/
section
variable {H K : Hp} {v ver off n m j : Nat} {ro : Bool} {e s : Nat} {cs xs news : List LV} {o : AO}
theorem hget_h0 : hget (H ++ K) H.length ver off = hget K 0 ver off := by unfold hget; rw [hp_get0]
theorem hget_hj : hget (H ++ K) (H.length + j) ver off = hget K j ver off := by unfold hget; rw [hp_getj]
theorem hget_c0 : hget (⟨v, ro, e, s, cs⟩ :: K) 0 v off = cs[off]? := by simp [hget]
theorem hget_cs : hget (o :: K) (j + 1) ver off = hget K j ver off := by simp [hget]
theorem hgets_h0 : hgets (H ++ K) H.length ver off n = hgets K 0 ver off n := by unfold hgets; rw [hp_get0]
theorem hgets_hj : hgets (H ++ K) (H.length + j) ver off n = hgets K j ver off n := by unfold hgets; rw [hp_getj]
theorem hgets_c0 (h : off + n ≤ cs.length) : hgets (⟨v, ro, e, s, cs⟩ :: K) 0 v off n = some ((cs.drop off).take n) := by simp [hgets, h]
theorem hgets_cs : hgets (o :: K) (j + 1) ver off n = hgets K j ver off n := by simp [hgets]
theorem liveO_h0 : liveO (H ++ K) H.length ver = liveO K 0 ver := by unfold liveO; rw [hp_get0]
theorem liveO_hj : liveO (H ++ K) (H.length + j) ver = liveO K j ver := by unfold liveO; rw [hp_getj]
theorem liveO_c0 : liveO (⟨v, ro, e, s, cs⟩ :: K) 0 v = true := by simp [liveO]
theorem liveO_cs : liveO (o :: K) (j + 1) ver = liveO K j ver := by simp [liveO]
theorem hput_h0 : hput (H ++ K) H.length ver off xs = (hput K 0 ver off xs).map (H ++ ·) := by
  unfold hput; rw [hp_get0]
  cases K[0]? with
  | none => rfl
  | some o => simp only []; split <;> simp [hp_set0]
theorem hput_hj : hput (H ++ K) (H.length + j) ver off xs = (hput K j ver off xs).map (H ++ ·) := by
  unfold hput; rw [hp_getj]
  cases K[j]? with
  | none => rfl
  | some o => simp only []; split <;> simp [hp_setj]
theorem hput_c0 (h : off + xs.length ≤ cs.length) : hput (⟨v, false, e, s, cs⟩ :: K) 0 v off xs = some (⟨v, false, e, s, sets cs off xs⟩ :: K) := by simp [hput, h]
theorem hput_cs : hput (o :: K) (j + 1) ver off xs = (hput K j ver off xs).map (o :: ·) := by
  unfold hput
  simp only [List.getElem?_cons_succ]
  cases K[j]? with
  | none => rfl
  | some q => simp only []; split <;> simp
theorem hgetP_ptr {id : Nat} : hgetP H (.ptr id ver off) = hget H id ver off := rfl
theorem hgetsP_ptr {id : Nat} : hgetsP H n (.ptr id ver off) = hgets H id ver off n := rfl
theorem hputP_ptr {id : Nat} : hputP H xs (.ptr id ver off) = hput H id ver off xs := rfl
theorem fldP_ptr {id fo : Nat} (h : liveO H id ver = true) : fldP H fo (.ptr id ver off) = some (.ptr id ver (off + fo)) := by simp [fldP, h]
theorem idxP_sl {id sz : Nat} {cap : Option Nat} {i : Int} (h0 : 0 ≤ i) (h1 : i < n) (h : liveO H id ver = true) : idxP H sz i (.sl id ver off n cap) = some (.ptr id ver (off + i.toNat * sz)) := by simp [idxP, h0, h1, h]
theorem arrP_ptr {id sz : Nat} {i : Int} (h0 : 0 ≤ i) (h1 : i < n) (h : liveO H id ver = true) : arrP H sz n i (.ptr id ver off) = some (.ptr id ver (off + i.toNat * sz)) := by simp [arrP, h0, h1, h]
theorem lenOf_slv {id : Nat} {cap : Option Nat} : lenOf (.sl id ver off n cap) = some n := rfl
theorem lenOf_nils : lenOf .nils = some 0 := rfl
theorem lenOf_emp : lenOf .emp = some 0 := rfl
theorem cellsOf_sl {id sz : Nat} {cap : Option Nat} : cellsOf H sz (.sl id ver off n cap) = hgets H id ver off (n * sz) := rfl
theorem cellsOf_nils {sz : Nat} : cellsOf H sz .nils = some [] := rfl
theorem cellsOf_emp {sz : Nat} : cellsOf H sz .emp = some [] := rfl
theorem sets_nil : sets cs off [] = cs := rfl
theorem sets_one {x : LV} : sets cs off [x] = cs.set off x := rfl
theorem sets_cons {x : LV} : sets cs off (x :: xs) = sets (cs.set off x) (off + 1) xs := rfl
theorem aappO_grow {td : TD} {b : Nat} {zs : List LV} {id : Nat} (h1 : cs.length = n) (h2 : cs.all LV.isCell = true) (h3 : (n + m) * b ≤ 140737488355328) (h4 : n + m ≤ 17592186044416) (h5 : 0 < m) :
    aappO ⟨td, 1, b, zs⟩ e H id v 0 n none m news (some ⟨v, false, e, 1, cs⟩) = some (.sl id (v + 1) 0 (n + m) none, H.set id ⟨v + 1, false, e, 1, cs ++ news⟩) := by
  unfold aappO
  simp only [ne_eq, not_true_eq_false, if_false, Bool.false_eq_true]
  rw [if_neg (by simp only [Nat.mul_one]; omega), if_pos ⟨trivial, by omega, h2, h3, h4⟩]
theorem aappO_in {td : TD} {b : Nat} {zs : List LV} {id : Nat} (h1 : off + (n + m) ≤ cs.length) :
    aappO ⟨td, 1, b, zs⟩ e H id v off n none m news (some ⟨v, false, e, 1, cs⟩) = some (.sl id v off (n + m) none, H.set id ⟨v, false, e, 1, sets cs (off + n) news⟩) := by
  unfold aappO
  simp only [ne_eq, not_true_eq_false, if_false, Bool.false_eq_true]
  rw [if_pos (by simp only [Nat.mul_one]; exact h1)]
  simp
theorem amake_ok {te : TE} {el l c : Nat} (h1 : l ≤ c) (h2 : c ≤ 17592186044416) (h3 : te.by_ * c ≤ 140737488355328) :
    amake te el H (l : Int) (c : Int) = some (.sl H.length 0 0 l none, H ++ [⟨0, false, el, te.sz, zeros te.zs c⟩]) := by
  unfold amake
  have e : ((te.by_ : Int) * (c : Int)) = ((te.by_ * c : Nat) : Int) := by push_cast; rfl
  rw [if_pos ⟨by omega, by omega, by omega, by omega⟩]
  simp
theorem roomOf_ge (h : cs.length ≥ off + n * s) : n ≤ roomOf ⟨v, ro, e, s, cs⟩ off n none := by
  unfold roomOf
  simp only
  split
  · exact Nat.le_max_left _ _
  · exact Nat.le_refl _
theorem roomOf_ge' {o : AO} : n ≤ roomOf o off n none := by
  unfold roomOf
  simp only
  split
  · exact Nat.le_max_left _ _
  · exact Nat.le_refl _
theorem szO_h0 : szO (H ++ K) H.length = szO K 0 := by unfold szO; rw [hp_get0]
theorem szO_hj : szO (H ++ K) (H.length + j) = szO K j := by unfold szO; rw [hp_getj]
theorem szO_c0 : szO (⟨v, ro, e, s, cs⟩ :: K) 0 = s := rfl
theorem szO_cs : szO (o :: K) (j + 1) = szO K j := by simp [szO]
theorem liveO_get {id : Nat} (h : liveO H id ver = true) : ∃ o, H[id]? = some o ∧ o.ver = ver := by
  unfold liveO at h
  split at h
  · rename_i o ho; exact ⟨o, ho, by simpa using h⟩
  · cases h
theorem asliceS_hi {te : TE} {id : Nat} {k : IntKind} {hi : Int} (h : liveO H id ver = true) (hs : szO H id = te.sz) (h0 : 0 ≤ hi) (h1 : hi ≤ n) :
    asliceS te H (.sl id ver off n none) none (some (.int k hi)) none = some (.sl id ver off hi.toNat none) := by
  obtain ⟨o, ho, rfl⟩ := liveO_get h
  have e : o.sz = te.sz := by simpa [szO, ho] using hs
  have := roomOf_ge' (o := o) (off := off) (n := n)
  simp [asliceS, ho, e, asliceB, h0, show hi ≤ (roomOf o off n none : Nat) by omega]
theorem asliceS_lo {te : TE} {id : Nat} {k : IntKind} {lo : Int} (h : liveO H id ver = true) (hs : szO H id = te.sz) (h0 : 0 ≤ lo) (h1 : lo ≤ n) :
    asliceS te H (.sl id ver off n none) (some (.int k lo)) none none = some (.sl id ver (off + lo.toNat * te.sz) (n - lo.toNat) none) := by
  obtain ⟨o, ho, rfl⟩ := liveO_get h
  have e : o.sz = te.sz := by simpa [szO, ho] using hs
  have := roomOf_ge' (o := o) (off := off) (n := n)
  simp [asliceS, ho, e, asliceB, h0, h1]
theorem asliceS_lohi {te : TE} {id : Nat} {k k' : IntKind} {lo hi : Int} (h : liveO H id ver = true) (hs : szO H id = te.sz) (h0 : 0 ≤ lo) (h1 : lo ≤ hi) (h2 : hi ≤ n) :
    asliceS te H (.sl id ver off n none) (some (.int k lo)) (some (.int k' hi)) none = some (.sl id ver (off + lo.toNat * te.sz) (hi.toNat - lo.toNat) none) := by
  obtain ⟨o, ho, rfl⟩ := liveO_get h
  have e : o.sz = te.sz := by simpa [szO, ho] using hs
  have := roomOf_ge' (o := o) (off := off) (n := n)
  obtain ⟨l, rfl⟩ := Int.eq_ofNat_of_zero_le h0
  obtain ⟨h', rfl⟩ := Int.eq_ofNat_of_zero_le (show 0 ≤ hi by omega)
  have e2 : (h' : Int) ≤ (roomOf o off n none : Nat) := by omega
  have e3 : l ≤ h' := by omega
  have e4 : h' ≤ roomOf o off n none := by omega
  simp [asliceS, ho, e, asliceB, e4, e3]
theorem asliceS_all {te : TE} {id : Nat} (h : liveO H id ver = true) (hs : szO H id = te.sz) :
    asliceS te H (.sl id ver off n none) none none none = some (.sl id ver off n none) := by
  obtain ⟨o, ho, rfl⟩ := liveO_get h
  have e : o.sz = te.sz := by simpa [szO, ho] using hs
  have := roomOf_ge' (o := o) (off := off) (n := n)
  simp [asliceS, ho, e, asliceB]
/-- A part of a slice. -/
def subOf : LV → Nat → Nat → LV
  | .sl id ver off _ cap, l, n => .sl id ver (off + l) n (cap.map (· - l))
  | x, _, _ => x
theorem RdL.slice {te : TE} {x : LV} {k k' : IntKind} {lo hi : Int} (h : RdL H x cs) (hs : te.sz = 1) (h0 : 0 ≤ lo) (h1 : lo ≤ hi) (h2 : hi ≤ cs.length) :
    asliceS te H x (some (.int k lo)) (some (.int k' hi)) none = some (subOf x lo.toNat (hi.toNat - lo.toNat)) := by
  obtain ⟨l, rfl⟩ := Int.eq_ofNat_of_zero_le h0
  obtain ⟨h', rfl⟩ := Int.eq_ofNat_of_zero_le (show 0 ≤ hi by omega)
  have h3 := h.2.2
  rcases h.cases with ⟨rfl, rfl | rfl⟩ | ⟨id, ver, off, cap, rfl, hg⟩
  · have e1 : l = 0 := by simp at h2; omega
    have e2 : h' = 0 := by simp at h2; omega
    subst e1; subst e2
    simp [asliceS, asliceB, subOf]
  · have e1 : l = 0 := by simp at h2; omega
    have e2 : h' = 0 := by simp at h2; omega
    subst e1; subst e2
    simp [asliceS, asliceB, subOf]
  · obtain ⟨_, hl, _, _⟩ := hget_some hg
    obtain ⟨o, ho, rfl⟩ := liveO_get hl
    have e : o.sz = 1 := by simpa [szO, ho] using h3.1
    have e2 : h' ≤ roomOf o off cs.length cap := by
      cases cap with
      | none => have := roomOf_ge' (o := o) (off := off) (n := cs.length); omega
      | some k0 => have := h3.2 k0 rfl; simp only [roomOf]; omega
    have e3 : l ≤ h' := by omega
    simp [asliceS, ho, e, hs, asliceB, e2, e3, subOf]
theorem RdL.sub {x : LV} (h : RdL H x cs) {l m : Nat} (h1 : l + m ≤ cs.length) (hp : 0 < m) : RdL H (subOf x l m) ((cs.drop l).take m) := by
  have h3 := h.2.2
  rcases h.cases with ⟨rfl, _⟩ | ⟨id, ver, off, cap, rfl, hg⟩
  · simp at h1; omega
  · refine ⟨by simp [subOf, lenOf]; omega, ?_, h3.1, ?_⟩
    · simp only [subOf, cellsOf, Nat.mul_one]
      unfold hgets at hg ⊢
      cases ho : H[id]? with
      | none => rw [ho] at hg; cases hg
      | some o =>
        rw [ho] at hg
        simp only at hg ⊢
        split at hg
        case isFalse => cases hg
        rename_i hc
        rw [if_pos ⟨hc.1, by omega⟩]
        have hcs := Option.some.inj hg
        conv => rhs; rw [← hcs]
        congr 1
        rw [List.drop_take, List.take_take, List.drop_drop]
        congr 1
        omega
    · intro k hk
      cases cap with
      | none => cases hk
      | some k0 =>
        have := h3.2 k0 rfl
        simp only [Option.map_some, Option.some.injEq] at hk
        omega
theorem zeros_one {z : LV} : zeros [z] n = List.replicate n z := by simp [zeros]
end
theorem all_int (k : IntKind) (xs : List Int) : (xs.map (LV.int k)).all LV.isCell = true := by simp [LV.isCell]
theorem all_flt (k : FloatKind) (xs : List (Option Nat)) : (xs.map (LV.flt k)).all LV.isCell = true := by simp [LV.isCell]
theorem all_bool (xs : List Bool) : (xs.map LV.bool).all LV.isCell = true := by simp [LV.isCell]
theorem map_ix {α : Type} [Inhabited α] {f : α → LV} {xs : List α} {k : Nat} (h : k < xs.length) : (xs.map f)[k]? = some (f (ix xs k)) := by rw [List.getElem?_map, ix_get? xs k h]; rfl

/-! Loops whose state is told by slots. -/
def junkAll (tm : List LV) (ms : List Nat) : List LV := ms.foldl (fun tm i => tm.set i .junk) tm
def setAll (tm : List LV) (vs : List (Nat × LV)) : List LV := vs.foldl (fun tm p => tm.set p.1 p.2) tm

theorem AW_loopV {P : Program} {He : Hp} {tm : List LV} {H : Hp} {Q : Exit → List LV → Hp → Prop} {c : Code} {ι : Type} (ms : List Nat) (vals : ι → List (Nat × LV)) (Hf : ι → Hp) (ok : ι → Prop) (m : ι → Nat) (i0 : ι) (h0 : ok i0)
    (hj : JL tm (setAll (junkAll tm ms) (vals i0))) (hH : H = Hf i0)
    (hr : ∀ i, ok i → ∀ K : List LV → Hp → Prop, (∀ tm' H' j, ok j → m j < m i → JL tm' (setAll (junkAll tm ms) (vals j)) → H' = Hf j → K tm' H') → AW P He c (setAll (junkAll tm ms) (vals i)) (Hf i) (thenA K Q)) : AW P He (.loop c) tm H Q := by
  subst hH
  refine AW_loop (fun i => (setAll (junkAll tm ms) (vals i), Hf i)) ok m i0 h0 (Wk.junk hj) fun i hi K hK => hr i hi K fun tm' H' j h1 h2 h3 h4 => ?_
  subst h4
  exact hK tm' _ j h1 h2 (Wk.junk h3)

/-! The end of a body: a result that leads nowhere; the heap as it was. -/
theorem Wk.cut {He K : Hp} {tm : List LV} (hc : Closed He) : Wk He tm (He ++ K) (tm.map (renT (keepσ He.length []))) He := by
  have := Wk.keep (He := He) (H1 := He) (K := K) (tm := tm) [] (Nat.le_refl _) List.nodup_nil (by intro j hj; cases hj) hc
  simpa using this
theorem EndA_same {T : Tab} {He : Hp} {rs : List ResultVar} {Q : LV → Hp → Prop} {e : Exit} {tm : List LV} {H : Hp} {r : LV} (he : e = .normal ∨ e = .ret) (h : resA T tm H rs = some r) (hq : Q r H) : EndA T He rs Q e tm H := ⟨he, r, r, H, h, Wk.refl, hq⟩
theorem EndA_cut {T : Tab} {He K : Hp} {rs : List ResultVar} {Q : LV → Hp → Prop} {e : Exit} {tm : List LV} {r : LV} (hc : Closed He) (he : e = .normal ∨ e = .ret) (h : resA T tm (He ++ K) rs = some r) (hr : renT (keepσ He.length []) r = r) (hq : Q r He) : EndA T He rs Q e tm (He ++ K) :=
  ⟨he, r, r, He, h, by have := Wk.cut (K := K) (tm := [r]) hc; simpa [hr] using this, hq⟩
end Go.Proofs.Ytpbafacehmjdmaa

namespace Go.Proofs.Ytpbafacehmjdmaa
open Go.RowKit
set_option linter.unusedSimpArgs false
set_option linter.unusedVariables false
set_option linter.unusedSectionVars false

theorem All2.setL {α β : Type} {R : α → β → Prop} : ∀ {us : List α} {bs : List β} (i : Nat) {a : α}, All2 R us bs → (∀ b, bs[i]? = some b → R a b) → All2 R (us.set i a) bs
  | [], [], _, _, _, _ => trivial
  | _ :: _, y :: _, 0, _, h, k => ⟨k y rfl, h.2⟩
  | _ :: _, _ :: _, i + 1, _, h, k => ⟨h.1, All2.setL i h.2 (fun b hb => k b (by simpa using hb))⟩
  | [], _ :: _, _, _, h, _ => h.elim
  | _ :: _, [], _, _, h, _ => h.elim

theorem BR_virt {μ : Nat → Pl} {H : Hp} {el sz : Nat} {v : Value} (h : BR μ H .nils v) :
    BR (fun i => if i = H.length then ⟨0, 0, 0⟩ else μ i) (H ++ [⟨0, false, el, sz, []⟩]) (.sl H.length 0 0 0 none) v := by
  obtain ⟨a, rfl⟩ := h
  exact ⟨⟨0, false, el, sz, []⟩, a, 0, by simp, Nat.le_refl _, rfl, fun _ => ⟨Nat.le_refl _, fun h => absurd h (Nat.lt_irrefl _), (by intro k hk; cases hk), fun _ => ⟨fun _ => by simp, by simp⟩⟩⟩

/-- A slot that is nil told as an empty slice of an object that lies nowhere. -/
theorem Wk.virt {He H : Hp} {tm : List LV} (i el sz : Nat) (h : tm[i]? = some .nils) : Wk He tm H (tm.set i (.sl H.length 0 0 0 none)) (H ++ [⟨0, false, el, sz, []⟩]) := by
  intro w0 μe μ w vs hx hR hv
  obtain ⟨r1, r2⟩ := hR.virt el sz
  refine ⟨_, hx.trans r2, r1, All2.setL i (hv.mono fun _ _ => TR.ext r2) fun b hb => ?_⟩
  obtain ⟨v, k1, k2⟩ := hv.get i _ h
  rw [hb] at k1; cases k1
  exact TR.of_BR (BR_virt k2)

theorem Rep.recell {w0 w : World} {μ : Nat → Pl} {H : Hp} (hR : Rep w0 μ H w) {id off : Nat} {o : AO} {c0 c : LV} (ho : H[id]? = some o) (hc0 : o.cs[off]? = some c0)
    (hc : ∀ v, BR μ H c0 v → BR μ H c v) : Rep w0 μ (H.set id { o with cs := o.cs.set off c }) w ∧ Ext μ H μ (H.set id { o with cs := o.cs.set off c }) := by
  have hlt : id < H.length := by
    rcases Nat.lt_or_ge id H.length with h | h
    · exact h
    · simp [List.getElem?_eq_none h] at ho
  have hext : Ext μ H μ (H.set id { o with cs := o.cs.set off c }) := by
    intro i q hq
    by_cases e : i = id
    · subst e
      rw [ho] at hq; cases hq
      exact ⟨_, List.getElem?_set_self hlt, Nat.le_refl _, rfl, rfl, rfl, fun _ => rfl⟩
    · exact ⟨q, by rw [List.getElem?_set_ne (Ne.symm e)]; exact hq, Nat.le_refl _, rfl, rfl, rfl, fun _ => rfl⟩
  have hback : ∀ i q, (H.set id { o with cs := o.cs.set off c })[i]? = some q → ∃ q0, H[i]? = some q0 ∧ q.ver = q0.ver ∧ q.ro = q0.ro ∧ q.el = q0.el ∧ q.sz = q0.sz ∧ q.cs.length = q0.cs.length ∧ (i ≠ id → q = q0) ∧ (i = id → q.cs = o.cs.set off c ∧ q0 = o) := by
    intro i q hq
    by_cases e : i = id
    · subst e
      rw [List.getElem?_set_self hlt] at hq; cases hq
      exact ⟨o, ho, rfl, rfl, rfl, rfl, by simp, fun h => absurd rfl h, fun _ => ⟨rfl, rfl⟩⟩
    · rw [List.getElem?_set_ne (Ne.symm e)] at hq
      exact ⟨q, hq, rfl, rfl, rfl, rfl, rfl, fun _ => rfl, fun h => absurd h e⟩
  refine ⟨⟨hR.bel, ?_, ?_, ?_, ?_⟩, hext⟩
  · intro i q hq j x hx
    obtain ⟨q0, h1, _, _, _, _, _, h2, h3⟩ := hback i q hq
    by_cases e : i = id
    · obtain ⟨h4, rfl⟩ := h3 e
      rw [h4, List.getElem?_set] at hx
      split at hx
      · rename_i hj
        subst hj
        split at hx
        · cases hx
          obtain ⟨v, k1, k2, k3⟩ := hR.cell i _ h1 _ _ hc0
          exact ⟨v, k1, k2, BR.ext hext (hc v k3)⟩
        · cases hx
      · obtain ⟨v, k1, k2, k3⟩ := hR.cell i _ h1 j x hx
        exact ⟨v, k1, k2, BR.ext hext k3⟩
    · cases h2 e
      obtain ⟨v, k1, k2, k3⟩ := hR.cell i q h1 j x hx
      exact ⟨v, k1, k2, BR.ext hext k3⟩
  · intro i q hq hro
    obtain ⟨q0, h1, _, h4, _, _, h5, _, _⟩ := hback i q hq
    rcases hR.ro i q0 h1 (by rw [← h4]; exact hro) with h | h
    · exact Or.inl (List.eq_nil_of_length_eq_zero (by rw [h5, h]; rfl))
    · exact Or.inr h
  · intro i q hq hro
    obtain ⟨q0, h1, _, h4, h6, _, h5, _, _⟩ := hback i q hq
    rw [h5, h6]
    exact hR.rw i q0 h1 (by rw [← h4]; exact hro)
  · intro i j q s hq hs hqr hsr
    obtain ⟨q0, h1, _, h4, _⟩ := hback i q hq
    obtain ⟨s0, g1, _, g4, _⟩ := hback j s hs
    exact hR.dj i j q0 s0 h1 g1 (by rw [← h4]; exact hqr) (by rw [← g4]; exact hsr)

/-- A cell that is nil told so. -/
theorem Wk.virtC {He H : Hp} {tm : List LV} (id off el sz : Nat) {o : AO} (ho : H[id]? = some o) (hc : o.cs[off]? = some .nils) :
    Wk He tm H tm (H.set id { o with cs := o.cs.set off (.sl H.length 0 0 0 none) } ++ [⟨0, false, el, sz, []⟩]) := by
  intro w0 μe μ w vs hx hR hv
  obtain ⟨r1, r2⟩ := hR.virt el sz
  have hlt : id < H.length := by
    rcases Nat.lt_or_ge id H.length with h | h
    · exact h
    · simp [List.getElem?_eq_none h] at ho
  obtain ⟨s1, s2⟩ := r1.recell (id := id) (off := off) (o := o) (c0 := .nils) (c := .sl H.length 0 0 0 none) (by rw [List.getElem?_append_left hlt]; exact ho) hc (fun v h => BR_virt (μ := μ) h)
  rw [List.set_append_left _ _ hlt] at s1 s2
  exact ⟨_, (hx.trans r2).trans s2, s1, hv.mono fun _ _ h => TR.ext s2 (TR.ext r2 h)⟩

theorem fill_set {α : Type} [Inhabited α] (f : α → LV) (z : LV) (xs : List α) (k : Nat) (h : k < xs.length) :
    ((xs.take k).map f ++ List.replicate (xs.length - k) z).set k (f (ix xs k)) = (xs.take (k + 1)).map f ++ List.replicate (xs.length - (k + 1)) z := by
  have hl : ((xs.take k).map f).length = k := by simp; omega
  have er : xs.length - k = (xs.length - (k + 1)) + 1 := by omega
  rw [List.set_append_right _ _ (by omega), hl, Nat.sub_self, er, List.replicate_succ, List.set_cons_zero, take_ix xs k h]
  simp
theorem mark_set (g : Nat → LV) (cs : List LV) (k : Nat) (h : k < cs.length) : ((List.range k).map g ++ cs.drop k).set k (g k) = (List.range (k + 1)).map g ++ cs.drop (k + 1) := by
  have hl : ((List.range k).map g).length = k := by simp
  have er : cs.drop k = cs[k] :: cs.drop (k + 1) := List.drop_eq_getElem_cons h
  rw [List.set_append_right _ _ (by omega), hl, Nat.sub_self, er, List.set_cons_zero, List.range_succ]
  simp

/-! Results put in order. -/
inductive TdB (n : Nat) (K : Hp) (js : List (Option Nat)) : LV → LV → Prop
  | junk (x : LV) : TdB n K js x .junk
  | old (x : LV) (h : bnd n x) (h2 : x.isCell = true) : TdB n K js x x
  | virt (k : Nat) (h : js[k]? = some none) : TdB n K js .nils (.sl (n + k) 0 0 0 none)
  | own (k j ver off m : Nat) (cap : Option Nat) (h : js[k]? = some (some j)) (o : AO) (h2 : K[j]? = some o) (h3 : o.ver = ver) : TdB n K js (.sl (n + j) ver off m cap) (.sl (n + k) 0 off m cap)
inductive TdL (n : Nat) (K : Hp) (js : List (Option Nat)) : LV → LV → Prop
  | cell {x y : LV} (h : TdB n K js x y) : TdL n K js x y
  | agg {cs ds : List LV} (h : All2 (TdB n K js) cs ds) : TdL n K js (.agg cs) (.agg ds)
inductive TdT (n : Nat) (K : Hp) (js : List (Option Nat)) : LV → LV → Prop
  | one {x y : LV} (h : TdL n K js x y) : TdT n K js x y
  | tup {cs ds : List LV} (h : All2 (TdL n K js) cs ds) : TdT n K js (.tup cs) (.tup ds)

def RowOk (n : Nat) (K : Hp) (js : List (Option Nat)) (s : Option Nat) (row : AO) : Prop := row.ver = 0 ∧ row.ro = false ∧ match s with
  | none => row.cs = []
  | some j => ∃ ver cells, K[j]? = some ⟨ver, false, row.el, row.sz, cells⟩ ∧ row.cs.length ≤ cells.length ∧ All2 (TdB n K js) (cells.take row.cs.length) row.cs

theorem LV.scalar_bnd {n : Nat} : ∀ {cs : List LV}, (∀ c ∈ cs, c.isCell = true ∧ bnd n c) → ∀ {K : Hp} {js : List (Option Nat)}, All2 (TdB n K js) cs cs
  | [], _, _, _ => trivial
  | c :: cs, h, _, _ => ⟨TdB.old c (h c (by simp)).2 (h c (by simp)).1, LV.scalar_bnd fun x hx => h x (by simp [hx])⟩

theorem RowOk.plain {n : Nat} {K : Hp} {js : List (Option Nat)} {j ver el sz : Nat} {cs tail : List LV} (h : K[j]? = some ⟨ver, false, el, sz, cs ++ tail⟩) (hs : ∀ c ∈ cs, c.isCell = true ∧ bnd n c) : RowOk n K js (some j) ⟨0, false, el, sz, cs⟩ :=
  ⟨rfl, rfl, ver, _, h, by simp, by simp only [List.take_left']; exact LV.scalar_bnd hs⟩
theorem RowOk.eq {n : Nat} {K : Hp} {js : List (Option Nat)} {j ver el sz : Nat} {cells cs : List LV} (h : K[j]? = some ⟨ver, false, el, sz, cells⟩) (e : cells = cs) (hs : ∀ c ∈ cs, c.isCell = true ∧ bnd n c) : RowOk n K js (some j) ⟨0, false, el, sz, cs⟩ := by
  subst e
  exact RowOk.plain (tail := []) (by rw [List.append_nil]; exact h) hs
theorem scal_int {n : Nat} (k : IntKind) (xs : List Int) : ∀ c ∈ xs.map (LV.int k), c.isCell = true ∧ bnd n c := by
  intro c hc; obtain ⟨_, _, rfl⟩ := List.mem_map.1 hc; exact ⟨rfl, trivial⟩
theorem scal_flt {n : Nat} (k : FloatKind) (xs : List (Option Nat)) : ∀ c ∈ xs.map (LV.flt k), c.isCell = true ∧ bnd n c := by
  intro c hc; obtain ⟨_, _, rfl⟩ := List.mem_map.1 hc; exact ⟨rfl, trivial⟩
theorem scal_bool {n : Nat} (xs : List Bool) : ∀ c ∈ xs.map LV.bool, c.isCell = true ∧ bnd n c := by
  intro c hc; obtain ⟨_, _, rfl⟩ := List.mem_map.1 hc; exact ⟨rfl, trivial⟩
theorem RowOk.emp {n : Nat} {K : Hp} {js : List (Option Nat)} {j ver el sz : Nat} {cells : List LV} (h : K[j]? = some ⟨ver, false, el, sz, cells⟩) : RowOk n K js (some j) ⟨0, false, el, sz, []⟩ := ⟨rfl, rfl, ver, cells, h, Nat.zero_le _, trivial⟩
theorem RowOk.none {n : Nat} {K : Hp} {js : List (Option Nat)} {el sz : Nat} : RowOk n K js none ⟨0, false, el, sz, []⟩ := ⟨rfl, rfl, rfl⟩

section
variable {H1 K rows : Hp} {js : List (Option Nat)}

def rowMu (n : Nat) (js : List (Option Nat)) (μ : Nat → Pl) (i : Nat) : Pl := if i < n then μ i else match js[i - n]? with
  | some (some j) => μ (n + j)
  | _ => ⟨0, 0, 0⟩

theorem BR.oldR {μ : Nat → Pl} {x : LV} {v : Value} (h1 : bnd H1.length x) (h2 : x.isCell = true) (hx : BR μ (H1 ++ K) x v) : BR (rowMu H1.length js μ) (H1 ++ rows) x v := by
  cases x <;> first | exact hx | cases h2 | skip
  case ptr id ver off =>
    obtain ⟨o, a, g1, g2, g3, g4⟩ := hx
    have hl : id < H1.length := h1
    refine ⟨o, a, by rw [List.getElem?_append_left hl] at g1 ⊢; exact g1, g2, g3, fun e => ?_⟩
    simp only [rowMu, hl, if_true]; exact g4 e
  case sl id ver off m cap =>
    obtain ⟨o, a, c, g1, g2, g3, g4⟩ := hx
    have hl : id < H1.length := h1
    refine ⟨o, a, c, by rw [List.getElem?_append_left hl] at g1 ⊢; exact g1, g2, g3, fun e => ?_⟩
    simp only [rowMu, hl, if_true]; exact g4 e

theorem BR.rowsR {μ : Nat → Pl} (hrows : All2 (RowOk H1.length K js) js rows) {x y : LV} {v : Value} (h : TdB H1.length K js x y) (hx : BR μ (H1 ++ K) x v) : BR (rowMu H1.length js μ) (H1 ++ rows) y v := by
  cases h with
  | junk => trivial
  | old _ h1 h2 => exact BR.oldR h1 h2 hx
  | virt k h =>
    obtain ⟨a, rfl⟩ := hx
    obtain ⟨row, k1, k2⟩ := hrows.get k _ h
    obtain ⟨e1, e2, e3⟩ := k2
    refine ⟨row, a, 0, by rw [List.getElem?_append_right (by omega), Nat.add_sub_cancel_left]; exact k1, Nat.zero_le _, rfl, fun _ => ⟨Nat.le_refl _, fun h => absurd h (Nat.lt_irrefl _), (by intro k hk; cases hk), fun _ => ?_⟩⟩
    have e : (rowMu H1.length js μ (H1.length + k)).size = 0 := by
      unfold rowMu; rw [if_neg (by omega), Nat.add_sub_cancel_left, h]
    rw [e]; exact ⟨fun _ => by simp, by simp⟩
  | own k j ver off m cap h o h2 h3 =>
    obtain ⟨o', a, c, g1, g2, g3, g4⟩ := hx
    rw [List.getElem?_append_right (by omega), Nat.add_sub_cancel_left, h2] at g1
    cases g1
    obtain ⟨row, k1, e1, e2, ver', cells, e3, e4, e5⟩ := hrows.get k _ h
    rw [h2] at e3
    have e3' := Option.some.inj e3
    refine ⟨row, a, c, by rw [List.getElem?_append_right (by omega), Nat.add_sub_cancel_left]; exact k1, Nat.zero_le _, g3, fun _ => ?_⟩
    have e : rowMu H1.length js μ (H1.length + k) = μ (H1.length + j) := by
      unfold rowMu; rw [if_neg (by omega), Nat.add_sub_cancel_left, h]
    rw [e]
    obtain ⟨f1, f2, f3, f4⟩ := g4 h3.symm
    have hsz : o.sz = row.sz := by rw [e3']
    have hro : o.ro = false := by rw [e3']
    exact ⟨f1, f2, f3, fun _ => by rw [← hsz]; exact f4 hro⟩

theorem All2.imp {α β γ : Type} {R : α → β → Prop} {S : α → γ → Prop} {T : β → γ → Prop} (h : ∀ a b c, R a b → S a c → T b c) : ∀ {us : List α} {bs : List β} {cs : List γ}, All2 R us bs → All2 S us cs → All2 T bs cs
  | [], [], [], _, _ => trivial
  | a :: us, b :: bs, c :: cs, h1, h2 => ⟨h a b c h1.1 h2.1, All2.imp h h1.2 h2.2⟩
  | [], _ :: _, _, h, _ => h.elim
  | _ :: _, [], _, h, _ => h.elim
  | [], [], _ :: _, _, k => k.elim
  | _ :: _, _ :: _, [], _, k => k.elim

theorem TdB.isCell {n : Nat} {K : Hp} {js : List (Option Nat)} {x y : LV} (h : TdB n K js x y) (hy : y ≠ .junk) : x.isCell = true := by
  cases h <;> first | rfl | assumption | exact absurd rfl hy

theorem LR.rowsR {μ : Nat → Pl} (hrows : All2 (RowOk H1.length K js) js rows) {x y : LV} {v : Value} (h : TdL H1.length K js x y) (hx : LR μ (H1 ++ K) x v) : LR (rowMu H1.length js μ) (H1 ++ rows) y v := by
  cases h with
  | cell h =>
    by_cases hy : y = .junk
    · subst hy; trivial
    · have hc := h.isCell hy
      have hx' : BR μ (H1 ++ K) x v := by cases x <;> first | exact hx | cases hc
      exact LR.of_BR (BR.rowsR hrows h hx')
  | agg h =>
    obtain ⟨vs, e, k⟩ := hx
    exact ⟨vs, e, All2.imp (R := TdB H1.length K js) (S := BR μ (H1 ++ K)) (T := BR (rowMu H1.length js μ) (H1 ++ rows)) (fun a b c h1 h2 => BR.rowsR hrows h1 h2) h k⟩

theorem TR.rowsR {μ : Nat → Pl} (hrows : All2 (RowOk H1.length K js) js rows) {x y : LV} {v : Value} (h : TdT H1.length K js x y) (hx : TR μ (H1 ++ K) x v) : TR (rowMu H1.length js μ) (H1 ++ rows) y v := by
  cases h with
  | one h =>
    cases h with
    | cell h =>
      by_cases hy : y = .junk
      · subst hy; trivial
      · have hc := h.isCell hy
        have hx' : BR μ (H1 ++ K) x v := by cases x <;> first | exact hx | cases hc
        exact TR.of_BR (BR.rowsR hrows h hx')
    | agg h => exact TR.of_LR (LR.rowsR hrows (TdL.agg h) hx)
  | tup h =>
    obtain ⟨vs, e, k⟩ := hx
    exact ⟨vs, e, All2.imp (R := TdL H1.length K js) (S := LR μ (H1 ++ K)) (T := LR (rowMu H1.length js μ) (H1 ++ rows)) (fun a b c h1 h2 => LR.rowsR hrows h1 h2) h k⟩

theorem filterMap_nodup_get {js : List (Option Nat)} (hn : (js.filterMap id).Nodup) {k k' j : Nat} (h : js[k]? = some (some j)) (h' : js[k']? = some (some j)) : k = k' := by
  induction js generalizing k k' with
  | nil => simp at h
  | cons x js ih =>
    have hmem : ∀ i, js[i]? = some (some j) → j ∈ js.filterMap id := fun i hi => by
      rw [List.mem_filterMap]; exact ⟨some j, List.mem_of_getElem? hi, rfl⟩
    have hn' : (js.filterMap id).Nodup := by
      cases x with
      | none => simpa using hn
      | some a => simp only [List.filterMap_cons, id] at hn; exact (List.nodup_cons.1 hn).2
    have hx : ∀ i, x = some j → js[i]? = some (some j) → False := fun i e hi => by
      subst e
      simp only [List.filterMap_cons, id] at hn
      exact (List.nodup_cons.1 hn).1 (hmem i hi)
    cases k with
    | zero =>
      cases k' with
      | zero => rfl
      | succ k' =>
        simp only [List.getElem?_cons_zero, Option.some.injEq] at h
        exact (hx k' h (by simpa using h')).elim
    | succ k =>
      cases k' with
      | zero =>
        simp only [List.getElem?_cons_zero, Option.some.injEq] at h'
        exact (hx k h' (by simpa using h)).elim
      | succ k' => exact congrArg (· + 1) (ih hn' (k := k) (k' := k') (by simpa using h) (by simpa using h'))

theorem Wk.rowsR {He : Hp} {r0 r : LV} (hl : He.length ≤ H1.length) (hc : ∀ (i : Nat) (o : AO), H1[i]? = some o → ∀ c ∈ o.cs, bnd H1.length c) (hn : (js.filterMap id).Nodup)
    (hrows : All2 (RowOk H1.length K js) js rows) (hr : TdT H1.length K js r0 r) : Wk He [r0] (H1 ++ K) [r] (H1 ++ rows) := by
  intro w0 μe μ w vs hx hR hv
  have hmu : ∀ i, i < H1.length → rowMu H1.length js μ i = μ i := fun i hi => by simp [rowMu, hi]
  have hcase : ∀ i q, (H1 ++ rows)[i]? = some q → (i < H1.length ∧ H1[i]? = some q) ∨ ∃ k s, i = H1.length + k ∧ js[k]? = some s ∧ RowOk H1.length K js s q := by
    intro i q hq
    rcases Nat.lt_or_ge i H1.length with h | h
    · rw [List.getElem?_append_left h] at hq; exact Or.inl ⟨h, hq⟩
    · rw [List.getElem?_append_right h] at hq
      have hlen := hrows.len
      have hlt : i - H1.length < js.length := by
        rcases Nat.lt_or_ge (i - H1.length) rows.length with h | h
        · omega
        · simp [List.getElem?_eq_none h] at hq
      obtain ⟨row, k1, k2⟩ := hrows.get (i - H1.length) js[i - H1.length] (by simp [hlt])
      rw [hq] at k1; cases k1
      exact Or.inr ⟨i - H1.length, _, by omega, by simp [hlt], k2⟩
  have hro : ∀ k j (q : AO), js[k]? = some (some j) → rowMu H1.length js μ (H1.length + k) = μ (H1.length + j) := fun k j q h => by
    unfold rowMu; rw [if_neg (by omega), Nat.add_sub_cancel_left, h]
  have hno : ∀ k, js[k]? = some none → rowMu H1.length js μ (H1.length + k) = ⟨0, 0, 0⟩ := fun k h => by
    unfold rowMu; rw [if_neg (by omega), Nat.add_sub_cancel_left, h]
  have hKg : ∀ j (o : AO), K[j]? = some o → (H1 ++ K)[H1.length + j]? = some o := fun j o h => by
    rw [List.getElem?_append_right (by omega), Nat.add_sub_cancel_left]; exact h
  refine ⟨rowMu H1.length js μ, ?_, ⟨hR.bel, ?_, ?_, ?_, ?_⟩, ?_⟩
  · intro i o ho
    obtain ⟨o1, h1, h2, h3, h4, h5, h6⟩ := hx i o ho
    have hi : i < H1.length := by
      rcases Nat.lt_or_ge i He.length with h | h
      · omega
      · simp [List.getElem?_eq_none h] at ho
    rw [List.getElem?_append_left hi] at h1
    exact ⟨o1, by rw [List.getElem?_append_left hi]; exact h1, h2, h3, h4, h5, fun e => by rw [hmu i hi]; exact h6 e⟩
  · intro i q hq j c hcc
    rcases hcase i q hq with ⟨hi, hq'⟩ | ⟨k, s, rfl, hs, hok⟩
    · obtain ⟨v, k1, k2, k3⟩ := hR.cell i q (by rw [List.getElem?_append_left hi]; exact hq') j c hcc
      refine ⟨v, by rw [hmu i hi]; exact k1, k2, ?_⟩
      by_cases hcl : c.isCell = true
      · exact BR.rowsR hrows (TdB.old c (hc i q hq' c (List.mem_of_getElem? hcc)) hcl) k3
      · cases c <;> first | exact (hcl rfl).elim | exact k3.elim | trivial
    · obtain ⟨e1, e2, e3⟩ := hok
      cases s with
      | none => simp only at e3; rw [e3] at hcc; simp at hcc
      | some j0 =>
        obtain ⟨ver, cells, g1, g2, g3⟩ := e3
        rw [hro k j0 q hs]
        have hj : j < q.cs.length := by
          rcases Nat.lt_or_ge j q.cs.length with h | h
          · exact h
          · simp [List.getElem?_eq_none h] at hcc
        have hjc : j < cells.length := by omega
        obtain ⟨v, k1, k2, k3⟩ := hR.cell (H1.length + j0) _ (hKg j0 _ g1) j cells[j] (by simp [hjc])
        obtain ⟨y, y1, y2⟩ := g3.get j cells[j] (by rw [List.getElem?_take, if_pos hj]; simp [hjc])
        rw [hcc] at y1; cases y1
        exact ⟨v, k1, k2, BR.rowsR hrows y2 k3⟩
  · intro i q hq hroo
    rcases hcase i q hq with ⟨hi, hq'⟩ | ⟨k, s, rfl, hs, hok⟩
    · rw [hmu i hi]; exact hR.ro i q (by rw [List.getElem?_append_left hi]; exact hq') hroo
    · rw [hok.2.1] at hroo; cases hroo
  · intro i q hq hroo
    rcases hcase i q hq with ⟨hi, hq'⟩ | ⟨k, s, rfl, hs, hok⟩
    · rw [hmu i hi]; exact hR.rw i q (by rw [List.getElem?_append_left hi]; exact hq') hroo
    · obtain ⟨e1, e2, e3⟩ := hok
      cases s with
      | none => simp only at e3; rw [hno k hs, e3]; exact ⟨rfl, Nat.le_refl _, Or.inl rfl⟩
      | some j0 =>
        obtain ⟨ver, cells, g1, g2, g3⟩ := e3
        rw [hro k j0 q hs]
        obtain ⟨k1, k2, k3⟩ := hR.rw (H1.length + j0) _ (hKg j0 _ g1) rfl
        exact ⟨k1, Nat.le_trans g2 k2, k3⟩
  · intro i i' q s hq hs hqr hsr hzi hzj he
    have hsrc : ∀ i q, (H1 ++ rows)[i]? = some q → q.ro = false → (rowMu H1.length js μ i).size ≠ 0 → ∃ i0 o, (H1 ++ K)[i0]? = some o ∧ o.ro = false ∧ rowMu H1.length js μ i = μ i0 ∧ ((i < H1.length ∧ i0 = i) ∨ ∃ k j, i = H1.length + k ∧ i0 = H1.length + j ∧ js[k]? = some (some j)) := by
      intro i q hq hqr hz
      rcases hcase i q hq with ⟨hi, hq'⟩ | ⟨k, s, rfl, hs, hok⟩
      · exact ⟨i, q, by rw [List.getElem?_append_left hi]; exact hq', hqr, hmu i hi, Or.inl ⟨hi, rfl⟩⟩
      · obtain ⟨e1, e2, e3⟩ := hok
        cases s with
        | none => rw [hno k hs] at hz; exact absurd rfl hz
        | some j0 =>
          obtain ⟨ver, cells, g1, g2, g3⟩ := e3
          exact ⟨H1.length + j0, _, hKg j0 _ g1, rfl, hro k j0 q hs, Or.inr ⟨k, j0, rfl, rfl, hs⟩⟩
    obtain ⟨i0, o, a1, a2, a3, a4⟩ := hsrc i q hq hqr hzi
    obtain ⟨j0, p, b1, b2, b3, b4⟩ := hsrc i' s hs hsr hzj
    rw [a3, b3] at he
    have e := hR.dj i0 j0 o p a1 b1 a2 b2 (by rw [← a3]; exact hzi) (by rw [← b3]; exact hzj) he
    subst e
    rcases a4 with ⟨h1, h2⟩ | ⟨k, j, h1, h2, h3⟩
    · rcases b4 with ⟨g1, g2⟩ | ⟨k', j', g1, g2, g3⟩
      · omega
      · omega
    · rcases b4 with ⟨g1, g2⟩ | ⟨k', j', g1, g2, g3⟩
      · omega
      · have : j = j' := by omega
        subst this
        have := filterMap_nodup_get hn h3 g3
        omega
  · match vs, hv with
    | [v], hv => exact ⟨TR.rowsR hrows hr hv.1, trivial⟩
end

theorem RdL_hj {H K : Hp} {j ver el n : Nat} {ro : Bool} {cs : List LV} (h : K[j]? = some ⟨ver, ro, el, 1, cs⟩) (hn : cs.length = n) : RdL (H ++ K) (.sl (H.length + j) ver 0 n none) cs := by
  subst hn
  refine ⟨rfl, ?_, by unfold szO; rw [hp_getj, h], fun k hk => by cases hk⟩
  simp only [cellsOf, Nat.mul_one, hgets, hp_getj, h]
  simp
theorem RdL_h0 {H K : Hp} {ver el n : Nat} {ro : Bool} {cs : List LV} (h : K[0]? = some ⟨ver, ro, el, 1, cs⟩) (hn : cs.length = n) : RdL (H ++ K) (.sl H.length ver 0 n none) cs := RdL_hj (j := 0) h hn
theorem RdL_id {H : Hp} {id ver el n : Nat} {ro : Bool} {cs : List LV} (h : H[id]? = some ⟨ver, ro, el, 1, cs⟩) (hn : cs.length = n) : RdL H (.sl id ver 0 n none) cs := by
  subst hn
  refine ⟨rfl, ?_, by unfold szO; rw [h], fun k hk => by cases hk⟩
  simp only [cellsOf, Nat.mul_one, hgets, h]
  simp
theorem RdL_nil {H : Hp} : RdL H .nils [] := ⟨rfl, rfl, trivial⟩
theorem RdL_emp {H : Hp} : RdL H .emp [] := ⟨rfl, rfl, trivial⟩

/-! An object of the caller, written. -/
section
variable {H : Hp} {id ver v off n : Nat} {ro : Bool} {e s : Nat} {cs xs : List LV} {o : AO}
theorem hget_setS (h : id < H.length) : hget (H.set id ⟨v, ro, e, s, cs⟩) id v off = cs[off]? := by simp [hget, h]
theorem hgets_setS (h : id < H.length) (h2 : off + n ≤ cs.length) : hgets (H.set id ⟨v, ro, e, s, cs⟩) id v off n = some ((cs.drop off).take n) := by simp [hgets, h, h2]
theorem hput_setS (h : id < H.length) (h2 : off + xs.length ≤ cs.length) : hput (H.set id ⟨v, false, e, s, cs⟩) id v off xs = some (H.set id ⟨v, false, e, s, sets cs off xs⟩) := by simp [hput, h, h2, List.set_set]
theorem liveO_setS (h : id < H.length) : liveO (H.set id ⟨v, ro, e, s, cs⟩) id v = true := by simp [liveO, h]
end
/-- The end of a body whose result is new. -/
theorem EndA_rows {T : Tab} {He K rows : Hp} {rs : List ResultVar} {Q : LV → Hp → Prop} {e : Exit} {tm : List LV} {r0 r : LV} (js : List (Option Nat)) (hcl : Closed He) (he : e = .normal ∨ e = .ret) (h : resA T tm (He ++ K) rs = some r0)
    (hn : (js.filterMap id).Nodup) (hrows : All2 (RowOk He.length K js) js rows) (hr : TdT He.length K js r0 r) (hq : Q r (He ++ rows)) : EndA T He rs Q e tm (He ++ K) :=
  ⟨he, r0, r, _, h, Wk.rowsR (Nat.le_refl _) hcl hn hrows hr, hq⟩

theorem EndA_rows0 {T : Tab} {He rows : Hp} {rs : List ResultVar} {Q : LV → Hp → Prop} {e : Exit} {tm : List LV} {r0 r : LV} (js : List (Option Nat)) (hcl : Closed He) (he : e = .normal ∨ e = .ret) (h : resA T tm He rs = some r0)
    (hn : (js.filterMap id).Nodup) (hrows : All2 (RowOk He.length [] js) js rows) (hr : TdT He.length [] js r0 r) (hq : Q r (He ++ rows)) : EndA T He rs Q e tm He :=
  ⟨he, r0, r, _, h, by have := Wk.rowsR (He := He) (H1 := He) (K := []) (Nat.le_refl _) hcl hn hrows hr; rwa [List.append_nil] at this, hq⟩

/-! For the walks' simp. -/
section
variable {b : Bool} {k : IntKind} {q : FloatKind} {n : Int} {o : Option Nat} {i v f m : Nat} {c : Option Nat} {g : FuncId} {cs : List LV}
theorem isCell_bool : (LV.bool b).isCell = true := rfl
theorem isCell_int : (LV.int k n).isCell = true := rfl
theorem isCell_flt : (LV.flt q o).isCell = true := rfl
theorem isCell_ptr : (LV.ptr i v f).isCell = true := rfl
theorem isCell_nils : LV.nils.isCell = true := rfl
theorem isCell_emp : LV.emp.isCell = true := rfl
theorem isCell_sl : (LV.sl i v f m c).isCell = true := rfl
theorem isCell_junk : LV.junk.isCell = false := rfl
theorem isCell_fn : (LV.fn g cs).isCell = false := rfl
theorem isCell_agg : (LV.agg cs).isCell = false := rfl
theorem isCell_tup : (LV.tup cs).isCell = false := rfl
theorem cellsL_bool : cellsL (LV.bool b) = [LV.bool b] := rfl
theorem cellsL_int : cellsL (LV.int k n) = [LV.int k n] := rfl
theorem cellsL_flt : cellsL (LV.flt q o) = [LV.flt q o] := rfl
theorem cellsL_ptr : cellsL (LV.ptr i v f) = [LV.ptr i v f] := rfl
theorem cellsL_nils : cellsL LV.nils = [LV.nils] := rfl
theorem cellsL_emp : cellsL LV.emp = [LV.emp] := rfl
theorem cellsL_sl : cellsL (LV.sl i v f m c) = [LV.sl i v f m c] := rfl
theorem cellsL_junk : cellsL LV.junk = [LV.junk] := rfl
theorem cellsL_fn : cellsL (LV.fn g cs) = [LV.fn g cs] := rfl
theorem cellsL_agg : cellsL (LV.agg cs) = cs := rfl
end
attribute [go_sem] isCell_bool isCell_int isCell_flt isCell_ptr isCell_nils isCell_emp isCell_sl isCell_junk isCell_fn isCell_agg isCell_tup cellsL_bool cellsL_int cellsL_flt cellsL_ptr cellsL_nils cellsL_emp cellsL_sl cellsL_junk cellsL_fn cellsL_agg
attribute [go_sem] AOp ADo awant acall aop ev constL constB abin aint aflt aun aconv abuiltin aidx putA TD.agg partL List.set_cons_succ List.set_cons_zero List.getD_cons_succ
attribute [go_sem] List.getD_cons_zero List.getElem?_cons_succ List.getElem?_cons_zero List.length_cons List.length_nil List.length_map List.map_cons List.map_nil List.all_cons List.all_nil
attribute [go_sem] List.cons_append List.nil_append List.append_nil List.append_assoc List.length_append List.drop_zero List.take_succ_cons List.take_zero Bool.and_true Bool.true_and Option.bind_some
attribute [go_sem] Option.map_some Option.map_none true_implies Bool.true_eq_false Bool.false_eq_true false_implies and_true true_and if_true if_false ite_true ite_false Bool.not_true Bool.not_false
attribute [go_sem] Nat.add_zero Nat.zero_add Nat.mul_one Nat.zero_mul hp_get0 hp_getj hp_set0 hp_setj hget_h0 hget_hj hget_c0 hget_cs hgets_h0 hgets_hj hgets_c0 hgets_cs liveO_h0 liveO_hj liveO_c0
attribute [go_sem] liveO_cs hput_h0 hput_hj hput_c0 hput_cs hgetP_ptr hgetsP_ptr hputP_ptr fldP_ptr idxP_sl arrP_ptr lenOf_slv lenOf_nils lenOf_emp cellsOf_sl cellsOf_nils cellsOf_emp sets_nil sets_one
attribute [go_sem] sets_cons aappend aapp aappO_grow aappO_in zeros_one all_int all_flt all_bool map_ix Int.toNat_natCast and_self decide_true decide_false ne_eq not_true_eq_false not_false_eq_true
attribute [go_sem] Array.toList_map List.toList_toArray afill aslice amake_ok asliceS_hi asliceS_lo asliceS_lohi asliceS_all szO_h0 szO_hj szO_c0 szO_cs hget_setS hgets_setS hput_setS liveO_setS
attribute [go_sem] or_self or_false false_or List.replicate_succ List.replicate_zero List.replicate AQOp AQDo List.length_range List.length_take List.length_drop List.length_set List.length_replicate
attribute [go_sem] List.all_append Bool.and_self bne_self_eq_false beq_self_eq_true
end Go.Proofs.Ytpbafacehmjdmaa

namespace Go.Proofs.Ytpbafacehmjdmaa
open Go.RowKit
set_option linter.unusedSimpArgs false
set_option linter.unusedVariables false
set_option maxRecDepth 100000

def cw (o : Option Nat) : Option Nat := o.bind fun b => (can .f32 b).map wide
theorem cvC32 (o : Option Nat) : cvC .f32 .f64 o = some (cw o) := by
  cases o with
  | none => rfl
  | some b =>
    unfold cvC cw
    rw [if_neg (by decide)]
    simp only [Option.bind_some]
    by_cases h : isNum .f32 b = true
    · rw [can_num h]
      rcases isNum_fin .f32 b h with hf | ⟨s, hr⟩
      · obtain ⟨m, e, hr, _⟩ := read_single b hf
        have hi := widen_inf b hf _ _ _ hr
        have hd : FloatKind.f32.decode b = .number (b / 2147483648 % 2 == 1) m (-149 + (e : Int)) := hr
        rw [hd]
        have hi' : (FloatKind.f64.decode (FloatKind.f64.encode (.number (b / 2147483648 % 2 == 1) m (-149 + (e : Int))))).isInfinity = false := hi
        simp only [hi', Bool.false_eq_true, if_false, Option.map_some, wide_eq, hd]
      · have hd : FloatKind.f32.decode b = .infinity s := hr
        rw [hd]
        simp only [Option.map_some, wide_eq, hd]
    · have h' : isNum .f32 b = false := by simpa using h
      obtain ⟨s, f, hd⟩ := read_notNum h'
      rw [can_nan h', hd]; rfl
theorem fEq_refl (k : FloatKind) (b : Nat) : fEq k (some b) (some b) = true := by
  simp [fEq, ordC]
theorem fEq_none (k : FloatKind) (x : Option Nat) : fEq k none x = false := by simp [fEq, ordC]
theorem set_self {H : Hp} {id : Nat} {o : AO} (h : H[id]? = some o) : H.set id o = H := by
  refine List.ext_getElem? fun i => ?_
  by_cases e : i = id
  · subst e
    have : i < H.length := by
      rcases Nat.lt_or_ge i H.length with h' | h'
      · exact h'
      · simp [List.getElem?_eq_none h'] at h
    rw [List.getElem?_set_self this, h]
  · rw [List.getElem?_set_ne (Ne.symm e)]
theorem lt_of_get {H : Hp} {id : Nat} {o : AO} (h : H[id]? = some o) : id < H.length := by
  rcases Nat.lt_or_ge id H.length with h' | h'
  · exact h'
  · simp [List.getElem?_eq_none h'] at h
theorem mark_len {g : Nat → LV} {cs : List LV} {k : Nat} (h : k ≤ cs.length) : ((List.range k).map g ++ cs.drop k).length = cs.length := by simp; omega
theorem ix_range {n i : Nat} (h : i < n) : ix (List.range n) i = i := by rw [ix_eq _ _ (by simpa using h)]; simp
def mkInt64 (k i : Nat) : LV := .int .i64 (k + i : Nat)
def mkFloat32 (k i : Nat) : LV := .flt .f32 (some (FloatKind.f32.nearest (k + i : Nat)))
def mkBool (k i : Nat) : LV := .bool ((((k + i : Nat) : Int).tmod 3) == 0)
def szI (n : Nat) (left : Int) : Int := if left - n < 0 then -1 else left - n





end Go.Proofs.Ytpbafacehmjdmaa

namespace Go.Proofs.Ytpbafacehmjdmaa
open Go.RowKit
set_option linter.unusedSimpArgs false
set_option linter.unusedVariables false
set_option linter.unusedSectionVars false
set_option maxRecDepth 100000

theorem aappO_grow0 {td : TD} {b e : Nat} {zs news : List LV} {id v m : Nat} {H : Hp} (h3 : m * b ≤ 140737488355328) (h4 : m ≤ 17592186044416) (h5 : 0 < m) :
    aappO ⟨td, 1, b, zs⟩ e H id v 0 0 none m news (some ⟨v, false, e, 1, []⟩) = some (.sl id (v + 1) 0 m none, H.set id ⟨v + 1, false, e, 1, news⟩) := by
  rw [aappO_grow (by rfl) (by rfl) (by rw [Nat.zero_add]; exact h3) (by omega) h5, Nat.zero_add]; rfl
attribute [go_sem] aappO_grow0
theorem slice_nil {μ : Nat → Pl} {H : Hp} {lv : LV} {cs : List LV} {v : Value} (h : RdL H lv cs) (hv : TR μ H lv v) : ∃ a n c, v = .slice a n c ∧ (a = none → cs = []) := by
  obtain ⟨h1, h2, h3⟩ := h
  cases lv <;> try (cases h1; done)
  case nils =>
    obtain ⟨a, rfl⟩ := hv
    exact ⟨a, 0, 0, rfl, fun _ => List.eq_nil_of_length_eq_zero (by simp [lenOf] at h1; omega)⟩
  case emp =>
    obtain ⟨a, c, rfl⟩ := hv
    exact ⟨a, 0, c, rfl, fun _ => List.eq_nil_of_length_eq_zero (by simp [lenOf] at h1; omega)⟩
  case sl id ver off n cap =>
    obtain ⟨o, a, c, g1, g2, rfl, g4⟩ := hv
    refine ⟨a, n, c, rfl, fun e => ?_⟩
    have hl : n = cs.length := by simpa [lenOf] using h1
    have hver : o.ver = ver := by
      simp only [cellsOf, hgets, g1] at h2
      split at h2
      · rename_i h; exact h.1
      · cases h2
    obtain ⟨k1, k2, _⟩ := g4 hver.symm
    refine List.eq_nil_of_length_eq_zero ?_
    rcases Nat.eq_zero_or_pos c with h0 | h0
    · omega
    · rw [k2 h0] at e; cases e

theorem AW_nilcmp {P : Program} {T : Tab} (hT : TabOk P T) {He : Hp} {id : Nat} {tm : List LV} {H : Hp} {Q : Exit → List LV → Hp → Prop} {o1 o2 : Oper} {x s d : Nat} {t yt e : TypeId} {lv : LV} {cs : List LV}
    (h1 : o1.op = .move (.tmp x)) (g1 : o1.guard = none) (d1 : o1.dst = some s) (h2 : o2.op = .binOp .eql t (.tmp s) (.const (.slice none 0 0)) yt) (g2 : o2.guard = none) (d2 : o2.dst = some d)
    (hu : P.underlying t = some (.slice e)) (hx : tm[x]? = some lv) (hs : s < tm.length) (hr : RdL H lv cs)
    (h : ∀ b : Bool, (b = true → cs = []) → Q .normal ((tm.set s lv).set d (.bool b)) H) : AW P He (.region id [o1, o2].toArray false) tm H Q := by
  intro w0 μe μ w a e1 e2 e3 e4
  refine wp_region_list ?_
  rw [List.toList_toArray]
  simp only [wpList]
  have hw1 : awant [o1, o2] tm o1 = some true := by unfold awant; rw [g1]
  rw [awant_sound e3 hw1]
  simp only [if_true]
  refine Or.inl (ADo_sound hT (K := fun tm' H' => tm' = tm.set s lv ∧ H' = H) ?_ e2 e3 fun tm' H' μ' w' a' hk hx' hR' ha' hd' => ?_)
  · unfold ADo
    rw [h1]
    simp only [acall, aop, d1, putA]
    refine ⟨?_, trivial⟩
    simp [ev, List.getD, hx]
  · obtain ⟨rfl, rfl⟩ := hk
    have hw2 : awant [o1, o2] (tm.set s lv) o2 = some true := by unfold awant; rw [g2]
    rw [awant_sound ha' hw2]
    simp only [if_true]
    refine Or.inl ?_
    have hv := TR_ev ha' (.tmp s)
    have hev : ev (tm.set s lv) (.tmp s) = lv := by simp [ev, List.getD, hs]
    rw [hev] at hv
    obtain ⟨p, n, c, hval, hnil⟩ := slice_nil hr hv
    have hc : a'.eval (.const (.slice none 0 0)) = .slice none 0 0 := rfl
    have hrun : (execOp a'.eval o2).run P w' = .ok (.value (.bool p.isNone)) w' := by
      obtain ⟨dst, op, type, pos, after, guard⟩ := o2
      simp only at h2
      subst h2
      simp [execOp, hval, hc, eqGuard, binOp, run_equal_slice_nil w' t e p n c hu]
    unfold Oper.wp
    rw [hrun]
    refine ⟨μ', (tm.set s lv).set d (.bool p.isNone), H', (put_defers _ _ _).trans (hd'.trans e4), e1.trans hx', hR', ?_, h p.isNone fun hb => hnil (by simpa using hb)⟩
    have := put_rel ha' o2.dst (show TR μ' H' (.bool p.isNone) (.bool p.isNone) from rfl)
    rw [d2] at this ⊢
    exact this
end Go.Proofs.Ytpbafacehmjdmaa

namespace Go.Proofs.Ytpbafacehmjdmaa
open Go.RowKit
set_option linter.unusedSimpArgs false
set_option linter.unusedVariables false
set_option maxRecDepth 100000

theorem Clone_int64_c (lv : LV) (xs : List Int) (H : Hp) (h : RdL H lv (xs.map (LV.int .i64))) (hn : xs.length ≤ 17592186044416) :
    FunH Try.prog 21 [lv] H fun r H' => r = .sl H.length 0 0 xs.length none ∧ H' = H ++ [⟨0, false, 2, 1, xs.map (LV.int .i64)⟩] := by
  rcases Nat.eq_zero_or_pos xs.length with h0 | h0
  · have e : xs = [] := List.eq_nil_of_length_eq_zero h0
    subst e
    (refine FunH_body tyOk Try.func21 rfl (by kernel_rfl) Try.ntmps21 (fun hcl hbd => ?_); simp only [List.length_cons, List.length_nil, Nat.reduceAdd, Nat.reduceSub, List.replicate, List.cons_append, List.nil_append])
    repeat' (first
      | ((with_reducible refine hK _ _ ?_); clear hK K)
      | ((first | (with_reducible show AOp _ _ _ _ _ _ _)); simp (disch := first | ((with_reducible show liveO _ _ _ = true); first | assumption | (exact liveO_setS (by assumption)) | (exact PtL.live (by assumption)) | (exact PtL.liveA (by assumption) _) | (simp only [go_sem]; done)) | omega | assumption | rfl | (simp only [go_sem]; first | done | omega)) only [go_sem, reduceIte, reduceCtorEq, Nat.reduceAdd, Nat.reduceMul, Nat.reduceSub, Nat.reduceLeDiff, Nat.lt_irrefl, Nat.reduceLT, Nat.reduceEqDiff, Nat.reduceBEq, Int.reduceLE, Int.reduceLT, Int.reduceToNat, w64, eq_self, h.lenm, h.isCell, h.cellsA])
      | (with_reducible refine AW_seq (fun K hK => ?_))
      | ((with_reducible refine AW_nilcmp (id := 1) tyOk rfl rfl rfl rfl rfl rfl Try.underlying24 rfl (by simp) (by first | assumption | exact RdL.app (by assumption) _ | exact RdL_hj rfl (by simp) | exact RdL_h0 rfl (by simp) | exact RdL_nil | exact RdL_emp) (fun b hb => ?_)); simp only [thenA, blockA, List.set_cons_succ, List.set_cons_zero, if_true, if_false, reduceIte])
      | (with_reducible refine AW_region tyOk ?_)
      | (with_reducible refine AOps_cons (fun K hK => ?_))
      | ((with_reducible refine AOps_nil ?_); try simp only [thenA, blockA, if_true, if_false, reduceIte, Nat.reduceEqDiff, reduceCtorEq])
      | (with_reducible refine AW_block ?_)
      | ((first | (with_reducible refine AW_ret ?_) | (with_reducible refine AW_skip ?_) | (with_reducible refine AW_exit ?_)); try simp only [thenA, blockA, if_true, if_false, reduceIte, Nat.reduceEqDiff, reduceCtorEq])
      | ((with_reducible show AW _ _ (.cond _ _ _) _ _ _); refine AW_cond rfl (fun hg => ?_) (fun hg => ?_) <;> first | (exfalso; simp only [reduceCtorEq] at hg; done) | ((try simp only [Bool.not_eq_true', Bool.not_eq_false', decide_eq_true_eq, decide_eq_false_iff_not] at hg); try (exfalso; omega)))
      | ((with_reducible show _ ∧ _); refine And.intro (fun hg => ?_) (fun hg => ?_) <;> (try simp only [Bool.not_eq_true', Bool.not_eq_false'] at hg) <;> simp only [hg] <;> (try simp only [decide_eq_true_eq, decide_eq_false_iff_not] at hg) <;> (try (exfalso; omega)))
      | (clear hK K)
      | fail)
    · first | (refine EndA_rows0 [none] hcl (by first | exact Or.inr rfl | exact Or.inl rfl) (by simp only [Try.results21, resA, aresL, go_sem, reduceIte, reduceCtorEq, Nat.reduceAdd, Nat.reduceMul, Nat.reduceSub, Nat.reduceLeDiff, Nat.lt_irrefl, Nat.reduceLT, Nat.reduceEqDiff, Nat.reduceBEq, Int.reduceLE, Int.reduceLT, Int.reduceToNat, w64, eq_self] <;> rfl) (by decide) ?_ ?_ ⟨rfl, rfl⟩) | (refine EndA_rows [none] hcl (by first | exact Or.inr rfl | exact Or.inl rfl) (by simp only [Try.results21, resA, aresL, go_sem, reduceIte, reduceCtorEq, Nat.reduceAdd, Nat.reduceMul, Nat.reduceSub, Nat.reduceLeDiff, Nat.lt_irrefl, Nat.reduceLT, Nat.reduceEqDiff, Nat.reduceBEq, Int.reduceLE, Int.reduceLT, Int.reduceToNat, w64, eq_self] <;> rfl) (by decide) ?_ ?_ ⟨rfl, rfl⟩)
      rotate_left
      · repeat' (first | exact trivial | apply TdT.tup | apply TdT.one | apply TdL.agg | apply TdL.cell | exact TdB.old _ trivial rfl | exact TdB.virt 0 rfl | exact TdB.junk _ | exact TdB.old _ (by assumption) (by assumption) | refine And.intro ?_ ?_)
      all_goals (repeat' (first | (with_reducible exact RowOk.none) | ((with_reducible apply RowOk.emp); exact rfl) | ((with_reducible apply RowOk.eq); (exact rfl); rotate_left; (first | (with_reducible exact scal_int _ _) | (with_reducible exact scal_flt _ _) | (with_reducible exact scal_bool _) | (intro c hc; cases hc; done) | (simp [LV.isCell, bnd]; done))) | exact trivial | refine And.intro ?_ ?_))
      all_goals (try rfl)
    · refine EndA_rows [some 0] hcl (by first | exact Or.inr rfl | exact Or.inl rfl) (by simp only [Try.results21, resA, aresL, go_sem, reduceIte, reduceCtorEq, Nat.reduceAdd, Nat.reduceMul, Nat.reduceSub, Nat.reduceLeDiff, Nat.lt_irrefl, Nat.reduceLT, Nat.reduceEqDiff, Nat.reduceBEq, Int.reduceLE, Int.reduceLT, Int.reduceToNat, w64, eq_self] <;> rfl) (by decide) ?_ ?_ ⟨rfl, rfl⟩
      rotate_left
      · repeat' (first | exact trivial | apply TdT.tup | apply TdT.one | apply TdL.agg | apply TdL.cell | exact TdB.old _ trivial rfl | exact TdB.own 0 0 _ _ _ _ rfl _ rfl rfl | exact TdB.junk _ | exact TdB.old _ (by assumption) (by assumption) | refine And.intro ?_ ?_)
      all_goals (repeat' (first | (with_reducible exact RowOk.none) | ((with_reducible apply RowOk.emp); exact rfl) | ((with_reducible apply RowOk.eq); (exact rfl); rotate_left; (first | (with_reducible exact scal_int _ _) | (with_reducible exact scal_flt _ _) | (with_reducible exact scal_bool _) | (intro c hc; cases hc; done) | (simp [LV.isCell, bnd]; done))) | exact trivial | refine And.intro ?_ ?_))
      all_goals (try rfl)
  · (refine FunH_body tyOk Try.func21 rfl (by kernel_rfl) Try.ntmps21 (fun hcl hbd => ?_); simp only [List.length_cons, List.length_nil, Nat.reduceAdd, Nat.reduceSub, List.replicate, List.cons_append, List.nil_append])
    repeat' (first
      | ((with_reducible refine hK _ _ ?_); clear hK K)
      | ((first | (with_reducible show AOp _ _ _ _ _ _ _)); simp (disch := first | ((with_reducible show liveO _ _ _ = true); first | assumption | (exact liveO_setS (by assumption)) | (exact PtL.live (by assumption)) | (exact PtL.liveA (by assumption) _) | (simp only [go_sem]; done)) | omega | assumption | rfl | (simp only [go_sem]; first | done | omega)) only [go_sem, reduceIte, reduceCtorEq, Nat.reduceAdd, Nat.reduceMul, Nat.reduceSub, Nat.reduceLeDiff, Nat.lt_irrefl, Nat.reduceLT, Nat.reduceEqDiff, Nat.reduceBEq, Int.reduceLE, Int.reduceLT, Int.reduceToNat, w64, eq_self, h.lenm, h.isCell, h.cellsA])
      | (with_reducible refine AW_seq (fun K hK => ?_))
      | ((with_reducible refine AW_nilcmp (id := 1) tyOk rfl rfl rfl rfl rfl rfl Try.underlying24 rfl (by simp) (by first | assumption | exact RdL.app (by assumption) _ | exact RdL_hj rfl (by simp) | exact RdL_h0 rfl (by simp) | exact RdL_nil | exact RdL_emp) (fun b hb => ?_)); simp only [thenA, blockA, List.set_cons_succ, List.set_cons_zero, if_true, if_false, reduceIte])
      | (with_reducible refine AW_region tyOk ?_)
      | (with_reducible refine AOps_cons (fun K hK => ?_))
      | ((with_reducible refine AOps_nil ?_); try simp only [thenA, blockA, if_true, if_false, reduceIte, Nat.reduceEqDiff, reduceCtorEq])
      | (with_reducible refine AW_block ?_)
      | ((first | (with_reducible refine AW_ret ?_) | (with_reducible refine AW_skip ?_) | (with_reducible refine AW_exit ?_)); try simp only [thenA, blockA, if_true, if_false, reduceIte, Nat.reduceEqDiff, reduceCtorEq])
      | ((with_reducible show AW _ _ (.cond _ _ _) _ _ _); refine AW_cond rfl (fun hg => ?_) (fun hg => ?_) <;> first | (exfalso; simp only [reduceCtorEq] at hg; done) | ((try simp only [Bool.not_eq_true', Bool.not_eq_false', decide_eq_true_eq, decide_eq_false_iff_not] at hg); try (exfalso; omega)))
      | ((with_reducible show _ ∧ _); refine And.intro (fun hg => ?_) (fun hg => ?_) <;> (try simp only [Bool.not_eq_true', Bool.not_eq_false'] at hg) <;> simp only [hg] <;> (try simp only [decide_eq_true_eq, decide_eq_false_iff_not] at hg) <;> (try (exfalso; omega)))
      | (clear hK K)
      | fail)
    · have e : xs = [] := by simpa using hb hg
      subst e
      simp at h0
    · refine EndA_rows [some 0] hcl (by first | exact Or.inr rfl | exact Or.inl rfl) (by simp only [Try.results21, resA, aresL, go_sem, reduceIte, reduceCtorEq, Nat.reduceAdd, Nat.reduceMul, Nat.reduceSub, Nat.reduceLeDiff, Nat.lt_irrefl, Nat.reduceLT, Nat.reduceEqDiff, Nat.reduceBEq, Int.reduceLE, Int.reduceLT, Int.reduceToNat, w64, eq_self] <;> rfl) (by decide) ?_ ?_ ⟨rfl, rfl⟩
      rotate_left
      · repeat' (first | exact trivial | apply TdT.tup | apply TdT.one | apply TdL.agg | apply TdL.cell | exact TdB.old _ trivial rfl | exact TdB.own 0 0 _ _ _ _ rfl _ rfl rfl | exact TdB.junk _ | exact TdB.old _ (by assumption) (by assumption) | refine And.intro ?_ ?_)
      all_goals (repeat' (first | (with_reducible exact RowOk.none) | ((with_reducible apply RowOk.emp); exact rfl) | ((with_reducible apply RowOk.eq); (exact rfl); rotate_left; (first | (with_reducible exact scal_int _ _) | (with_reducible exact scal_flt _ _) | (with_reducible exact scal_bool _) | (intro c hc; cases hc; done) | (simp [LV.isCell, bnd]; done))) | exact trivial | refine And.intro ?_ ?_))
      all_goals (try rfl)
end Go.Proofs.Ytpbafacehmjdmaa

namespace Go.Proofs.Ytpbafacehmjdmaa
open Go.RowKit
set_option linter.unusedSimpArgs false
set_option linter.unusedVariables false
set_option linter.unusedSectionVars false
set_option maxRecDepth 100000

def rnB (σ : Nat → Nat) : LV → LV
  | .ptr id v o => .ptr (σ id) v o
  | .sl id v o n c => .sl (σ id) v o n c
  | x => x
def rnL (σ : Nat → Nat) : LV → LV
  | .agg cs => .agg (cs.map (rnB σ))
  | .fn f cs => .fn f (cs.map (rnB σ))
  | .ptr id v o => .ptr (σ id) v o
  | .sl id v o n c => .sl (σ id) v o n c
  | x => x
def rnT (σ : Nat → Nat) : LV → LV
  | .tup cs => .tup (cs.map (rnL σ))
  | .agg cs => .agg (cs.map (rnB σ))
  | .fn f cs => .fn f (cs.map (rnB σ))
  | .ptr id v o => .ptr (σ id) v o
  | .sl id v o n c => .sl (σ id) v o n c
  | x => x
theorem rnB_junk (σ : Nat → Nat)  : rnB σ .junk = .junk := rfl
theorem rnB_bool (σ : Nat → Nat) (b : Bool) : rnB σ (.bool b) = (.bool b) := rfl
theorem rnB_int (σ : Nat → Nat) (k : IntKind) (n : Int) : rnB σ (.int k n) = (.int k n) := rfl
theorem rnB_flt (σ : Nat → Nat) (k : FloatKind) (o : Option Nat) : rnB σ (.flt k o) = (.flt k o) := rfl
theorem rnB_nils (σ : Nat → Nat)  : rnB σ .nils = .nils := rfl
theorem rnB_emp (σ : Nat → Nat)  : rnB σ .emp = .emp := rfl
theorem rnB_ptr (σ : Nat → Nat) (i v o : Nat) : rnB σ (.ptr i v o) = .ptr (σ i) v o := rfl
theorem rnB_sl (σ : Nat → Nat) (i v o n : Nat) (c : Option Nat) : rnB σ (.sl i v o n c) = .sl (σ i) v o n c := rfl
theorem rnL_junk (σ : Nat → Nat)  : rnL σ .junk = .junk := rfl
theorem rnL_bool (σ : Nat → Nat) (b : Bool) : rnL σ (.bool b) = (.bool b) := rfl
theorem rnL_int (σ : Nat → Nat) (k : IntKind) (n : Int) : rnL σ (.int k n) = (.int k n) := rfl
theorem rnL_flt (σ : Nat → Nat) (k : FloatKind) (o : Option Nat) : rnL σ (.flt k o) = (.flt k o) := rfl
theorem rnL_nils (σ : Nat → Nat)  : rnL σ .nils = .nils := rfl
theorem rnL_emp (σ : Nat → Nat)  : rnL σ .emp = .emp := rfl
theorem rnL_ptr (σ : Nat → Nat) (i v o : Nat) : rnL σ (.ptr i v o) = .ptr (σ i) v o := rfl
theorem rnL_sl (σ : Nat → Nat) (i v o n : Nat) (c : Option Nat) : rnL σ (.sl i v o n c) = .sl (σ i) v o n c := rfl
theorem rnL_agg (σ : Nat → Nat) (cs : List LV) : rnL σ (.agg cs) = .agg (cs.map (rnB σ)) := rfl
theorem rnL_fn (σ : Nat → Nat) (g : FuncId) (cs : List LV) : rnL σ (.fn g cs) = .fn g (cs.map (rnB σ)) := rfl
theorem rnT_junk (σ : Nat → Nat)  : rnT σ .junk = .junk := rfl
theorem rnT_bool (σ : Nat → Nat) (b : Bool) : rnT σ (.bool b) = (.bool b) := rfl
theorem rnT_int (σ : Nat → Nat) (k : IntKind) (n : Int) : rnT σ (.int k n) = (.int k n) := rfl
theorem rnT_flt (σ : Nat → Nat) (k : FloatKind) (o : Option Nat) : rnT σ (.flt k o) = (.flt k o) := rfl
theorem rnT_nils (σ : Nat → Nat)  : rnT σ .nils = .nils := rfl
theorem rnT_emp (σ : Nat → Nat)  : rnT σ .emp = .emp := rfl
theorem rnT_ptr (σ : Nat → Nat) (i v o : Nat) : rnT σ (.ptr i v o) = .ptr (σ i) v o := rfl
theorem rnT_sl (σ : Nat → Nat) (i v o n : Nat) (c : Option Nat) : rnT σ (.sl i v o n c) = .sl (σ i) v o n c := rfl
theorem rnT_agg (σ : Nat → Nat) (cs : List LV) : rnT σ (.agg cs) = .agg (cs.map (rnB σ)) := rfl
theorem rnT_fn (σ : Nat → Nat) (g : FuncId) (cs : List LV) : rnT σ (.fn g cs) = .fn g (cs.map (rnB σ)) := rfl
theorem rnT_tup (σ : Nat → Nat) (cs : List LV) : rnT σ (.tup cs) = .tup (cs.map (rnL σ)) := rfl
def rnO (σ : Nat → Nat) (o : AO) : AO := ⟨o.ver, o.ro, o.el, o.sz, o.cs.map (rnB σ)⟩
def sw (n : Nat) (s : Nat → Nat) (i : Nat) : Nat := if i < n then i else n + s (i - n)
theorem sw_lt {n i : Nat} {s : Nat → Nat} (h : i < n) : sw n s i = i := if_pos h
theorem sw_0 (n : Nat) (s : Nat → Nat) : sw n s n = n + s 0 := by unfold sw; rw [if_neg (Nat.lt_irrefl n), Nat.sub_self]
theorem sw_k (n k : Nat) (s : Nat → Nat) : sw n s (n + k) = n + s k := by unfold sw; rw [if_neg (by omega), Nat.add_sub_cancel_left]
theorem rnB_bnd {n : Nat} {s : Nat → Nat} {x : LV} (h : bnd n x) : rnB (sw n s) x = x := by
  cases x <;> first | rfl | (simp only [rnB, sw_lt h])
theorem rnT_bnd {n : Nat} {s : Nat → Nat} {x : LV} (h : bnd n x) (hc : x.isCell = true) : rnT (sw n s) x = x := by
  cases x <;> first | rfl | (simp only [rnT, sw_lt h]) | cases hc
theorem RdL.bnd {H : Hp} {x : LV} {cs : List LV} (h : RdL H x cs) : Go.Proofs.Ytpbafacehmjdmaa.bnd H.length x := by
  obtain ⟨h1, h2, h3⟩ := h
  cases x <;> try trivial
  all_goals try (cases h1; done)
  case sl id ver off n cap =>
    simp only [cellsOf, hgets] at h2
    split at h2
    · rename_i o ho
      show id < H.length
      rcases Nat.lt_or_ge id H.length with h | h
      · exact h
      · simp [List.getElem?_eq_none h] at ho
    · cases h2

section
variable {σ τ : Nat → Nat} {μ : Nat → Pl} {H H1 : Hp}
theorem BR.perm (hτ : ∀ i, i < H.length → τ (σ i) = i) (h1 : ∀ i o, H[i]? = some o → H1[σ i]? = some (rnO σ o)) {x : LV} {v : Value} (h : BR μ H x v) : BR (fun j => μ (τ j)) H1 (rnB σ x) v := by
  have hlt : ∀ {i : Nat} {o : AO}, H[i]? = some o → i < H.length := fun {i o} ho => by
    rcases Nat.lt_or_ge i H.length with h | h
    · exact h
    · simp [List.getElem?_eq_none h] at ho
  cases x <;> try exact h
  case ptr id ver off =>
    obtain ⟨o, a, g1, g2, g3, g4⟩ := h
    refine ⟨rnO σ o, a, h1 _ _ g1, g2, g3, fun e => ?_⟩
    simp only [hτ id (hlt g1)]; exact g4 e
  case sl id ver off n cap =>
    obtain ⟨o, a, c, g1, g2, g3, g4⟩ := h
    refine ⟨rnO σ o, a, c, h1 _ _ g1, g2, g3, fun e => ?_⟩
    simp only [hτ id (hlt g1)]; exact g4 e
theorem LR.perm (hτ : ∀ i, i < H.length → τ (σ i) = i) (h1 : ∀ i o, H[i]? = some o → H1[σ i]? = some (rnO σ o)) {x : LV} {v : Value} (h : LR μ H x v) : LR (fun j => μ (τ j)) H1 (rnL σ x) v := by
  cases x
  case agg cs =>
    obtain ⟨vs, e, k⟩ := h
    exact ⟨vs, e, All2.map_left _ (k.mono fun _ _ h => BR.perm hτ h1 h)⟩
  case fn f cs =>
    obtain ⟨vs, e, k⟩ := h
    exact ⟨vs, e, All2.map_left _ (k.mono fun _ _ h => BR.perm hτ h1 h)⟩
  case junk => exact LR.of_BR (BR.perm (μ := μ) (x := .junk) hτ h1 h)
  case bool b => exact LR.of_BR (BR.perm (μ := μ) (x := .bool b) hτ h1 h)
  case int k n => exact LR.of_BR (BR.perm (μ := μ) (x := .int k n) hτ h1 h)
  case flt k o => exact LR.of_BR (BR.perm (μ := μ) (x := .flt k o) hτ h1 h)
  case ptr i v o => exact LR.of_BR (BR.perm (μ := μ) (x := .ptr i v o) hτ h1 h)
  case nils => exact LR.of_BR (BR.perm (μ := μ) (x := .nils) hτ h1 h)
  case emp => exact LR.of_BR (BR.perm (μ := μ) (x := .emp) hτ h1 h)
  case sl i v o n c => exact LR.of_BR (BR.perm (μ := μ) (x := .sl i v o n c) hτ h1 h)
  case tup cs => exact LR.of_BR (BR.perm (μ := μ) (x := .tup cs) hτ h1 h)
theorem TR.perm (hτ : ∀ i, i < H.length → τ (σ i) = i) (h1 : ∀ i o, H[i]? = some o → H1[σ i]? = some (rnO σ o)) {x : LV} {v : Value} (h : TR μ H x v) : TR (fun j => μ (τ j)) H1 (rnT σ x) v := by
  cases x
  case tup cs =>
    obtain ⟨vs, e, k⟩ := h
    exact ⟨vs, e, All2.map_left _ (k.mono fun _ _ h => LR.perm hτ h1 h)⟩
  case junk => exact TR.of_LR (LR.perm (μ := μ) (x := .junk) hτ h1 h)
  case bool b => exact TR.of_LR (LR.perm (μ := μ) (x := .bool b) hτ h1 h)
  case int k n => exact TR.of_LR (LR.perm (μ := μ) (x := .int k n) hτ h1 h)
  case flt k o => exact TR.of_LR (LR.perm (μ := μ) (x := .flt k o) hτ h1 h)
  case ptr i v o => exact TR.of_LR (LR.perm (μ := μ) (x := .ptr i v o) hτ h1 h)
  case nils => exact TR.of_LR (LR.perm (μ := μ) (x := .nils) hτ h1 h)
  case emp => exact TR.of_LR (LR.perm (μ := μ) (x := .emp) hτ h1 h)
  case sl i v o n c => exact TR.of_LR (LR.perm (μ := μ) (x := .sl i v o n c) hτ h1 h)
  case fn f cs => exact TR.of_LR (LR.perm (μ := μ) (x := .fn f cs) hτ h1 h)
  case agg cs => exact TR.of_LR (LR.perm (μ := μ) (x := .agg cs) hτ h1 h)
theorem Wk.perm {He : Hp} {tm : List LV} (hτ : ∀ i, i < H.length → τ (σ i) = i) (hfix : ∀ i, i < He.length → σ i = i) (h1 : ∀ i o, H[i]? = some o → H1[σ i]? = some (rnO σ o))
    (h2 : ∀ j q, H1[j]? = some q → ∃ i o, j = σ i ∧ H[i]? = some o ∧ q = rnO σ o) : Wk He tm H (tm.map (rnT σ)) H1 := by
  intro w0 μe μ w vs hx hR hv
  have hlt : ∀ {i : Nat} {o : AO}, H[i]? = some o → i < H.length := fun {i o} ho => by
    rcases Nat.lt_or_ge i H.length with h | h
    · exact h
    · simp [List.getElem?_eq_none h] at ho
  refine ⟨fun j => μ (τ j), ?_, ⟨hR.bel, ?_, ?_, ?_, ?_⟩, All2.map_left _ (hv.mono fun _ _ h => TR.perm hτ h1 h)⟩
  · intro i o ho
    obtain ⟨o', k1, k2, k3, k4, k5, k6⟩ := hx i o ho
    have hi : σ i = i := hfix i (by
      rcases Nat.lt_or_ge i He.length with h | h
      · exact h
      · simp [List.getElem?_eq_none h] at ho)
    have g := h1 i o' k1
    rw [hi] at g
    refine ⟨rnO σ o', g, k2, k3, k4, k5, fun e => ?_⟩
    have ht := hτ i (hlt k1)
    rw [hi] at ht
    simp only [ht]; exact k6 e
  · intro j q hq k c hc
    obtain ⟨i, o, rfl, ho, rfl⟩ := h2 j q hq
    simp only [rnO, List.getElem?_map, Option.map_eq_some_iff] at hc
    obtain ⟨c0, hc0, rfl⟩ := hc
    obtain ⟨v, g1, g2, g3⟩ := hR.cell i o ho k c0 hc0
    simp only [hτ i (hlt ho)]
    exact ⟨v, g1, g2, BR.perm hτ h1 g3⟩
  · intro j q hq hro
    obtain ⟨i, o, rfl, ho, rfl⟩ := h2 j q hq
    simp only [hτ i (hlt ho)]
    rcases hR.ro i o ho hro with h | h
    · exact Or.inl (by simp [rnO, h])
    · exact Or.inr h
  · intro j q hq hro
    obtain ⟨i, o, rfl, ho, rfl⟩ := h2 j q hq
    simp only [hτ i (hlt ho)]
    have := hR.rw i o ho hro
    simpa [rnO] using this
  · intro j j' q s hq hs hqr hsr hz hz' he
    obtain ⟨i, o, rfl, ho, rfl⟩ := h2 j q hq
    obtain ⟨i', o', rfl, ho', rfl⟩ := h2 j' s hs
    simp only [hτ i (hlt ho), hτ i' (hlt ho')] at hz hz' he
    rw [hR.dj i i' o o' ho ho' hqr hsr hz hz' he]
end
/-- The new objects K behind He laid in the order s as K1. -/
theorem Wk.permK {He K K1 : Hp} {tm tm1 : List LV} (s t : Nat → Nat) (hcl : Closed He) (hs : ∀ k, k < K.length → t (s k) = k ∧ K1[s k]? = (K[k]?).map (rnO (sw He.length s)))
    (ht : ∀ k, k < K1.length → s (t k) = k ∧ t k < K.length) (htm : tm.map (rnT (sw He.length s)) = tm1) : Wk He tm (He ++ K) tm1 (He ++ K1) := by
  subst htm
  have hfo : ∀ i o, He[i]? = some o → rnO (sw He.length s) o = o := fun i o ho => by
    have : o.cs.map (rnB (sw He.length s)) = o.cs := by
      have := List.map_congr_left (f := rnB (sw He.length s)) (g := id) (l := o.cs) fun c hc => rnB_bnd (hcl i o ho c hc)
      rw [this, List.map_id]
    unfold rnO; rw [this]
  have hlt : ∀ {i : Nat} {o : AO}, He[i]? = some o → i < He.length := fun {i o} ho => by
    rcases Nat.lt_or_ge i He.length with h | h
    · exact h
    · simp [List.getElem?_eq_none h] at ho
  refine Wk.perm (τ := sw He.length t) ?_ (fun i hi => sw_lt hi) ?_ ?_
  · intro i hi
    rcases Nat.lt_or_ge i He.length with h | h
    · rw [sw_lt h, sw_lt h]
    · obtain ⟨k, rfl⟩ : ∃ k, i = He.length + k := ⟨i - He.length, by omega⟩
      rw [sw_k, sw_k, (hs k (by simp at hi; omega)).1]
  · intro i o ho
    rcases Nat.lt_or_ge i He.length with h | h
    · rw [List.getElem?_append_left h] at ho
      rw [sw_lt h, List.getElem?_append_left h, hfo i o ho]; exact ho
    · obtain ⟨k, rfl⟩ : ∃ k, i = He.length + k := ⟨i - He.length, by omega⟩
      rw [List.getElem?_append_right (by omega), Nat.add_sub_cancel_left] at ho
      have hk : k < K.length := by
        rcases Nat.lt_or_ge k K.length with h | h
        · exact h
        · simp [List.getElem?_eq_none h] at ho
      rw [sw_k, List.getElem?_append_right (by omega), Nat.add_sub_cancel_left, (hs k hk).2, ho]; rfl
  · intro j q hq
    rcases Nat.lt_or_ge j He.length with h | h
    · rw [List.getElem?_append_left h] at hq
      exact ⟨j, q, (sw_lt h).symm, by rw [List.getElem?_append_left h]; exact hq, (hfo j q hq).symm⟩
    · obtain ⟨k, rfl⟩ : ∃ k, j = He.length + k := ⟨j - He.length, by omega⟩
      rw [List.getElem?_append_right (by omega), Nat.add_sub_cancel_left] at hq
      have hk : k < K1.length := by
        rcases Nat.lt_or_ge k K1.length with h | h
        · exact h
        · simp [List.getElem?_eq_none h] at hq
      obtain ⟨e1, e2⟩ := ht k hk
      have e3 := (hs (t k) e2).2
      rw [e1, hq] at e3
      obtain ⟨o, ho, rfl⟩ := Option.map_eq_some_iff.1 e3.symm
      exact ⟨He.length + t k, o, by rw [sw_k, e1], by rw [List.getElem?_append_right (by omega), Nat.add_sub_cancel_left]; exact ho, rfl⟩

/-- Operations in any order, all of which come to the same end, but for the order of new objects. -/
theorem AW_treeW {P : Program} {T : Tab} {ops : List Oper} (hT : TabOk P T) {He H : Hp} {id : Nat} {tm tm1 : List LV} {H1 : Hp} {Q : Exit → List LV → Hp → Prop} (n : Nat) (hm : P.follows .mixedOrders = true) (hn : ops.length = n)
    (h : AAny P T .any ops n (Array.replicate n false) tm H fun tm' H' => Wk He tm' H' tm1 H1) (hq : Q .normal tm1 H1) : AW P He (.region id ops.toArray true) tm H Q := by
  subst hn
  intro w0 μe μ w a h1 h2 h3 h4
  refine wp_region_any hm ?_
  have := AAny_sound hT (μ0 := μ) (H0 := H) (d0 := a.defers) (Q' := Post P w0 μe He Q) (fun tm' H' μ' w' a' hk hx hR ha hd => by
    obtain ⟨μ2, k1, k2, k3⟩ := hk w0 μe μ' w' a'.tmps.toList (h1.trans hx) hR ha
    exact ⟨μ2, tm1, H1, hd.trans h4, k1, k2, k3, hq⟩) ops.length _ tm H μ _ a h (Ext.refl _ _) (h2.drewN 1) h3 rfl
  have e : ops.toArray.size = ops.length := by simp
  rw [e]
  exact this
theorem AAny_leafW {P : Program} {T : Tab} {ops : List Oper} {md : Region.Mode} {listed : Array Bool} {tm tm1 : List LV} {H H1 He : Hp} (hr : Region.ready md ops.toArray listed = []) (h : Wk He tm H tm1 H1) :
    AAny P T md ops 0 listed tm H fun tm' H' => Wk He tm' H' tm1 H1 := ⟨hr, h⟩
end Go.Proofs.Ytpbafacehmjdmaa

namespace Go.Proofs.Ytpbafacehmjdmaa
open Go.RowKit
set_option linter.unusedSimpArgs false
set_option linter.unusedVariables false
set_option linter.unusedSectionVars false
set_option maxRecDepth 100000

section
variable {H : Hp} {x q : LV} {fo sz n : Nat} {i : Int} {cs : List LV}
theorem live_lt {id ver : Nat} (h : liveO H id ver = true) : id < H.length := by
  unfold liveO at h
  rcases Nat.lt_or_ge id H.length with h' | h'
  · exact h'
  · simp [List.getElem?_eq_none h'] at h
theorem fldP_app (L : Hp) (h : fldP H fo x = some q) : fldP (H ++ L) fo x = some q := by
  cases x <;> simp only [fldP] at h ⊢ <;> try (cases h; done)
  split at h
  · rename_i hl
    rw [liveO_app L (live_lt hl), if_pos hl]; exact h
  · cases h
theorem idxP_app (L : Hp) (h : idxP H sz i x = some q) : idxP (H ++ L) sz i x = some q := by
  cases x <;> simp only [idxP] at h ⊢ <;> try (cases h; done)
  split at h
  · rename_i hl
    rw [liveO_app L (live_lt hl.2.2), if_pos hl]; exact h
  · cases h
theorem arrP_app (L : Hp) (h : arrP H sz n i x = some q) : arrP (H ++ L) sz n i x = some q := by
  cases x <;> simp only [arrP] at h ⊢ <;> try (cases h; done)
  split at h
  · rename_i hl
    rw [liveO_app L (live_lt hl.2.2), if_pos hl]; exact h
  · cases h
theorem hgetP_app (L : Hp) (h : hgetP H x = some q) : hgetP (H ++ L) x = some q := by
  cases x <;> simp only [hgetP] at h ⊢ <;> try (cases h; done)
  rename_i id ver off
  have hl : id < H.length := by
    unfold hget at h
    rcases Nat.lt_or_ge id H.length with h' | h'
    · exact h'
    · simp [List.getElem?_eq_none h'] at h
  rw [hget_app L hl]; exact h
theorem hgetsP_app (L : Hp) (h : hgetsP H n x = some cs) : hgetsP (H ++ L) n x = some cs := by
  cases x <;> simp only [hgetsP] at h ⊢ <;> try (cases h; done)
  rename_i id ver off
  have hl : id < H.length := by
    unfold hgets at h
    rcases Nat.lt_or_ge id H.length with h' | h'
    · exact h'
    · simp [List.getElem?_eq_none h'] at h
  rw [hgets_app L hl]; exact h
end
def quietB : Op → Bool
  | .fieldAddr _ _ _ | .indexAddr _ _ _ | .load _ _ => true
  | op => pureB op
theorem quiet_acall {op : Op} (h : quietB op = true) : acall op = none := by
  by_cases hp : pureB op = true
  · exact pure_acall hp
  cases op <;> first | rfl | exact absurd h hp
theorem quiet_aop {T : Tab} {r : Operand → LV} {H H' : Hp} {x : LV} {op : Op} (h : quietB op = true) (he : aop T r H op = some (x, H')) : H' = H ∧ ∀ L, aop T r (H ++ L) op = some (x, H ++ L) := by
  by_cases hp : pureB op = true
  · obtain ⟨e1, e2⟩ := pure_aop hp he
    exact ⟨e1, fun L => e2 _⟩
  cases op
  case fieldAddr s y f =>
    simp only [aop] at he ⊢
    split at he
    · split at he
      · split at he
        · split at he
          · split at he
            · cases he
            · rename_i h1 _ _ h2 _ _ h3 _ _ h4 h5
              simp only [Option.map_eq_some_iff, Prod.mk.injEq] at he
              obtain ⟨a, g1, rfl, rfl⟩ := he
              refine ⟨rfl, fun L => ?_⟩
              simp only [h1, h2, h3, h4, if_neg h5, fldP_app L g1, Option.map_some]
          · cases he
        · cases he
      · cases he
    · cases he
  case indexAddr t y k =>
    simp only [aop] at he ⊢
    split at he
    · split at he
      · split at he
        · rename_i h1 _ _ h2 _ _ _ _ h3 h4
          simp only [Option.map_eq_some_iff, Prod.mk.injEq] at he
          obtain ⟨a, g1, rfl, rfl⟩ := he
          refine ⟨rfl, fun L => ?_⟩
          simp only [h1, h2, h3, h4, idxP_app L g1, Option.map_some]
        · cases he
      · split at he
        · rename_i h1 _ _ _ h2 _ _ _ _ h3 h4
          simp only [Option.map_eq_some_iff, Prod.mk.injEq] at he
          obtain ⟨a, g1, rfl, rfl⟩ := he
          refine ⟨rfl, fun L => ?_⟩
          simp only [h1, h2, h3, h4, arrP_app L g1, Option.map_some]
        · cases he
      · cases he
    · cases he
  case load t y =>
    simp only [aop] at he ⊢
    split at he
    · rename_i te h1
      split at he
      · rename_i h2
        simp only [Option.map_eq_some_iff, Prod.mk.injEq] at he
        obtain ⟨a, g1, rfl, rfl⟩ := he
        refine ⟨rfl, fun L => ?_⟩
        simp only [h1, h2, if_true, hgetsP_app L g1, Option.map_some]
      · rename_i h2
        simp only [Option.map_eq_some_iff, Prod.mk.injEq] at he
        obtain ⟨a, g1, rfl, rfl⟩ := he
        refine ⟨rfl, fun L => ?_⟩
        simp only [h1, if_neg h2, hgetP_app L g1, Option.map_some]
    · cases he
  all_goals exact absurd h hp

theorem rnB_mapI (σ : Nat → Nat) (k : IntKind) (xs : List Int) : (xs.map (LV.int k)).map (rnB σ) = xs.map (LV.int k) := by rw [List.map_map]; rfl
theorem rnB_mapF (σ : Nat → Nat) (k : FloatKind) (xs : List (Option Nat)) : (xs.map (LV.flt k)).map (rnB σ) = xs.map (LV.flt k) := by rw [List.map_map]; rfl
theorem rnB_mapB (σ : Nat → Nat) (xs : List Bool) : (xs.map LV.bool).map (rnB σ) = xs.map LV.bool := by rw [List.map_map]; rfl
section
variable {P : Program} {T : Tab} {ops : List Oper} {md : Region.Mode}

def YX (T : Tab) (ops : List Oper) (Hs : Hp) (o : Oper) (x : LV) (tm : List LV) : Prop :=
  (awant ops tm o = some true ∧ acall o.op = none ∧ ∀ L : Hp, aop T (ev tm) (Hs ++ L) o.op = some (x, Hs ++ L)) ∨ (awant ops tm o = some false ∧ x = .tup [])
theorem YX.op {Hs : Hp} {o : Oper} {x : LV} {tm : List LV} {L : Hp} {K : List LV → Hp → Prop} (h : YX T ops Hs o x tm) (hk : K (putA tm o.dst x) (Hs ++ L)) : AOp P T ops o tm (Hs ++ L) K := by
  unfold AOp
  rcases h with ⟨h1, h2, h3⟩ | ⟨h1, rfl⟩
  · rw [h1]
    refine And.intro (fun _ => ?_) (fun h => Bool.noConfusion h)
    unfold ADo
    rw [h2]
    simp only [h3 L]
    exact hk
  · rw [h1]
    exact And.intro (fun h => Bool.noConfusion h) (fun _ => hk)
theorem YX.put {Hs : Hp} {oi oj : Oper} {x u : LV} {tm : List LV} (hy : YX T ops Hs oi x tm) (h3 : ∀ d, oj.dst = some d → d ∉ oi.looksAt ops.toArray) : YX T ops Hs oi x (putA tm oj.dst u) := by
  rcases hy with ⟨h1, h2, h4⟩ | ⟨h1, rfl⟩
  · exact Or.inl ⟨(awant_put oi tm oj.dst u h3).trans h1, h2, fun M => by rw [aop_congr oi.op fun z hz => ev_put_op oi tm oj.dst u h3 z hz]; exact h4 _⟩
  · exact Or.inr ⟨(awant_put oi tm oj.dst u h3).trans h1, rfl⟩
theorem YX_of {Hs : Hp} {o : Oper} {tm : List LV} {K : List LV → Hp → Prop} (hp : quietB o.op = true) (h : AOp P T ops o tm Hs K) : ∃ x, YX T ops Hs o x tm ∧ K (putA tm o.dst x) Hs := by
  unfold AOp at h
  split at h
  · rename_i b hw
    cases b
    · exact ⟨.tup [], Or.inr ⟨hw, rfl⟩, h.2 rfl⟩
    · have hd := h.1 rfl
      unfold ADo at hd
      rw [quiet_acall hp] at hd
      simp only at hd
      split at hd
      · rename_i r H' hr
        obtain ⟨rfl, h2⟩ := quiet_aop hp hr
        exact ⟨r, Or.inl ⟨hw, quiet_acall hp, h2⟩, hd⟩
      · exact hd.elim
  · exact h.elim
/-- Operations that only add new objects, all but the last. -/
def AAnyX (P : Program) (T : Tab) (md : Region.Mode) (ops : List Oper) (z : Nat) (Hs : Hp) : Nat → Array Bool → List LV → Hp → (List LV → Hp → Prop) → Prop
  | 0, listed, tm, H, K => Region.ready md ops.toArray listed = [] ∧ K tm H
  | f + 1, listed, tm, H, K => Region.ready md ops.toArray listed ≠ [] ∧ ∀ i ∈ Region.ready md ops.toArray listed, match ops[i]? with
    | some o => AOp P T ops o tm H fun tm' H' => (i = z ∨ ∃ L, H' = Hs ++ L) ∧ AAnyX P T md ops z Hs f (listed.setIfInBounds i true) tm' H' K
    | none => False
def AAllX (P : Program) (T : Tab) (md : Region.Mode) (ops : List Oper) (z : Nat) (Hs : Hp) (f : Nat) (listed : Array Bool) (tm : List LV) (H : Hp) (K : List LV → Hp → Prop) : List Nat → Prop
  | [] => True
  | i :: l => (match ops[i]? with
    | some o => AOp P T ops o tm H fun tm' H' => (i = z ∨ ∃ L, H' = Hs ++ L) ∧ AAnyX P T md ops z Hs f (listed.setIfInBounds i true) tm' H' K
    | none => False) ∧ AAllX P T md ops z Hs f listed tm H K l
theorem AAllX.mem {z f : Nat} {Hs : Hp} {listed : Array Bool} {tm : List LV} {H : Hp} {K : List LV → Hp → Prop} : ∀ {l : List Nat}, AAllX P T md ops z Hs f listed tm H K l → ∀ i ∈ l, match ops[i]? with
    | some o => AOp P T ops o tm H fun tm' H' => (i = z ∨ ∃ L, H' = Hs ++ L) ∧ AAnyX P T md ops z Hs f (listed.setIfInBounds i true) tm' H' K
    | none => False
  | [], _, i, hi => by cases hi
  | j :: l, h, i, hi => by
    rcases List.mem_cons.1 hi with rfl | hi
    · exact h.1
    · exact h.2.mem i hi
theorem AAnyX_leaf {z : Nat} {Hs : Hp} {listed : Array Bool} {tm : List LV} {H : Hp} {K : List LV → Hp → Prop} (hr : Region.ready md ops.toArray listed = []) (h : K tm H) : AAnyX P T md ops z Hs 0 listed tm H K := ⟨hr, h⟩
theorem AAnyX_step {z f : Nat} {Hs : Hp} {listed : Array Bool} {tm : List LV} {H : Hp} {K : List LV → Hp → Prop} (i : Nat) (l : List Nat) (hr : Region.ready md ops.toArray listed = i :: l) (h : AAllX P T md ops z Hs f listed tm H K (i :: l)) : AAnyX P T md ops z Hs (f + 1) listed tm H K :=
  ⟨by rw [hr]; simp, fun j hj => by rw [hr] at hj; exact h.mem j hj⟩
theorem AAllX_cons {z f i : Nat} {Hs : Hp} {l : List Nat} {listed : Array Bool} {tm : List LV} {H : Hp} {K0 : List LV → Hp → Prop} {o : Oper} (ho : ops[i]? = some o)
    (h : ∀ K : List LV → Hp → Prop, (∀ tm' H', (i = z ∨ ∃ L, H' = Hs ++ L) → AAnyX P T md ops z Hs f (listed.setIfInBounds i true) tm' H' K0 → K tm' H') → AOp P T ops o tm H K) (hl : AAllX P T md ops z Hs f listed tm H K0 l) : AAllX P T md ops z Hs f listed tm H K0 (i :: l) :=
  ⟨by rw [ho]; exact h _ fun _ _ h1 h2 => ⟨h1, h2⟩, hl⟩
theorem AAllX_nil {z f : Nat} {Hs : Hp} {listed : Array Bool} {tm : List LV} {H : Hp} {K0 : List LV → Hp → Prop} : AAllX P T md ops z Hs f listed tm H K0 [] := trivial

theorem AOp_put2 {oi oj : Oper} {x : LV} (hap : oi.apart ops.toArray oj = true) {K : List LV → Hp → Prop} {tm : List LV} {H : Hp} (h : AOp P T ops oj (putA tm oi.dst x) H K) :
    AOp P T ops oj tm H fun t H' => ∃ r, t = putA tm oj.dst r ∧ K (putA t oi.dst x) H' := by
  obtain ⟨h1, h2, h3⟩ := Oper.apart_spec hap
  unfold AOp at *
  rw [awant_put oj tm oi.dst x h1] at h
  have he : ∀ y ∈ oj.op.operands, ev (putA tm oi.dst x) y = ev tm y := fun y hy => ev_put_op oj tm oi.dst x h1 y hy
  split at h
  · rename_i b hw
    refine ⟨fun e => ?_, fun e => ?_⟩
    · have hd := h.1 e
      unfold ADo at *
      split at hd
      · rename_i f xs hc
        have hop : ∃ c : Call, oj.op = .call c ∧ (∀ y ∈ xs, y ∈ oj.op.operands) ∧ f ∈ oj.op.operands := by
          unfold acall at hc
          split at hc
          · rename_i c hop
            split at hc
            · rename_i f' hcal
              simp only [Option.some.injEq, Prod.mk.injEq] at hc
              refine ⟨c, hop, fun y hy => ?_, ?_⟩
              · rw [hop]; simp only [Op.operands, Call.operands, Array.mem_append]
                exact Or.inr (by rw [← hc.2] at hy; simpa using hy)
              · rw [hop, ← hc.1]; simp [Op.operands, Call.operands, hcal]
            · cases hc
          · cases hc
        obtain ⟨c, hop, hxs, hf⟩ := hop
        rw [he f hf] at hd
        split at hd
        · rename_i g caps hg
          have hm : xs.map (ev (putA tm oi.dst x)) = xs.map (ev tm) := List.map_congr_left fun y hy => he y (hxs y hy)
          rw [hm] at hd
          exact hd.mono fun r H' hk => ⟨r, rfl, by rw [← putA_comm tm x r h2]; exact hk⟩
        · exact hd.elim
      · rename_i hc
        rw [aop_congr oj.op he] at hd
        split at hd
        · exact ⟨_, rfl, by rw [← putA_comm tm x _ h2]; exact hd⟩
        · exact hd.elim
    · exact ⟨_, rfl, by rw [← putA_comm tm x (.tup []) h2]; exact h.2 e⟩
  · exact h.elim

theorem AAnyX_first {z i : Nat} {Hs : Hp} {oi : Oper} {x : LV} {K : List LV → Hp → Prop} (hi : ops[i]? = some oi) (hz : ∀ oz, ops[z]? = some oz → ∃ e ∈ oz.after, Region.binds md e = true ∧ e.on = i) :
    ∀ (f : Nat) (listed : Array Bool) (tm : List LV) (H : Hp),
      (∀ j oj, ops[j]? = some oj → j ≠ i → listed.getD j true = false → (∀ e ∈ oj.after, Region.binds md e = true → e.on ≠ i) → oi.apart ops.toArray oj = true) →
      i ∈ Region.ready md ops.toArray listed → (∃ L, H = Hs ++ L) → YX T ops Hs oi x tm →
      AAnyX P T md ops z Hs f (listed.setIfInBounds i true) (putA tm oi.dst x) H K → AAnyX P T md ops z Hs (f + 1) listed tm H K := by
  intro f
  induction f with
  | zero =>
    intro listed tm H _ hr hH hy hh
    obtain ⟨L0, rfl⟩ := hH
    refine ⟨fun h => (by rw [h] at hr; cases hr), fun j hj => ?_⟩
    by_cases hji : j = i
    · subst hji; rw [hi]; exact hy.op ⟨Or.inr ⟨L0, rfl⟩, hh⟩
    · have := ready_mono hj hji
      rw [hh.1] at this; cases this
  | succ f ih =>
    intro listed tm H hfree hr hH hy hh
    obtain ⟨L0, rfl⟩ := hH
    have hun := (mem_ready.1 hr).1
    refine ⟨fun h => (by rw [h] at hr; cases hr), fun j hj => ?_⟩
    by_cases hji : j = i
    · subst hji; rw [hi]; exact hy.op ⟨Or.inr ⟨L0, rfl⟩, hh⟩
    · have h1 := hh.2 j (ready_mono hj hji)
      obtain ⟨hjun, oj, hoj, hall⟩ := mem_ready.1 hj
      have hoj' : ops[j]? = some oj := by rw [List.getElem?_toArray] at hoj; exact hoj
      rw [hoj'] at h1 ⊢
      have hnot : ∀ e ∈ oj.after, Region.binds md e = true → e.on ≠ i := fun e he hb heq => by
        have h1 := hall e he hb
        rw [heq, getD_both hun] at h1
        cases h1
      have hap := hfree j oj hoj' hji hjun hnot
      obtain ⟨_, _, h3⟩ := Oper.apart_spec hap
      have h2 := AOp_put2 hap h1
      have hfree' : ∀ k ok, ops[k]? = some ok → k ≠ i → (listed.setIfInBounds j true).getD k true = false →
          (∀ e ∈ ok.after, Region.binds md e = true → e.on ≠ i) → oi.apart ops.toArray ok = true := fun k ok hk hki hun hno => by
        refine hfree k ok hk hki ?_ hno
        by_cases hjk : j = k
        · subst hjk; exact hjun
        · rw [getD_set_ne true hjk] at hun; exact hun
      refine AOp_mono (fun t H' h4 => ?_) h2
      obtain ⟨r, rfl, hext, hX⟩ := h4
      rcases hext with h0 | ⟨L, rfl⟩
      · subst h0
        obtain ⟨e, he1, he2, he3⟩ := hz oj hoj'
        exact absurd he3 (hnot e he1 he2)
      · refine ⟨Or.inr ⟨L, rfl⟩, ih (listed.setIfInBounds j true) _ _ hfree' (ready_mono hr (Ne.symm hji)) ⟨L, rfl⟩ (hy.put h3) ?_⟩
        rw [Array.setIfInBounds_comm _ _ hji]
        exact hX
theorem AAnyX_quiet {z f : Nat} {Hs : Hp} {listed : Array Bool} {tm : List LV} {H : Hp} {K0 : List LV → Hp → Prop} (i : Nat) {o oz : Oper} (ho : ops[i]? = some o) (hp : quietB o.op = true) (hoz : ops[z]? = some oz)
    (hr : (Region.ready md ops.toArray listed).contains i = true) (hf : Region.free md ops.toArray listed i = true) (hz : (oz.after.any fun e => Region.binds md e && e.on == i) = true)
    (hH : ∃ L, H = Hs ++ L) (h : ∀ K : List LV → Hp → Prop, (∀ tm', AAnyX P T md ops z Hs f (listed.setIfInBounds i true) tm' H K0 → K tm' Hs) → AOp P T ops o tm Hs K) : AAnyX P T md ops z Hs (f + 1) listed tm H K0 := by
  obtain ⟨x, h1, h2⟩ := YX_of hp (h (fun tm' _ => AAnyX P T md ops z Hs f (listed.setIfInBounds i true) tm' H K0) fun _ h => h)
  refine AAnyX_first ho (fun oz' hoz' => ?_) f listed tm H (fun j oj hj => Region.free_spec (by rw [List.getElem?_toArray]; exact ho) hf j oj (by rw [List.getElem?_toArray]; exact hj)) (by simpa using hr) hH h1 h2
  rw [hoz] at hoz'; cases hoz'
  rw [Array.any_eq_true'] at hz
  obtain ⟨e, he, hb⟩ := hz
  simp only [Bool.and_eq_true, beq_iff_eq] at hb
  exact ⟨e, he, hb.1, hb.2⟩
theorem AAnyX_any {z : Nat} {Hs : Hp} : ∀ {f : Nat} {listed : Array Bool} {tm : List LV} {H : Hp} {K : List LV → Hp → Prop}, AAnyX P T md ops z Hs f listed tm H K → AAny P T md ops f listed tm H K
  | 0, _, _, _, _, h => h
  | f + 1, listed, tm, H, K, h => ⟨h.1, fun i hi => by
      have := h.2 i hi
      split at this
      · rename_i o ho
        rw [ho]
        exact AOp_mono (fun _ _ hh => AAnyX_any hh.2) this
      · exact this.elim⟩
/-- Operations in any order that make new objects, then one that writes; all come to the same end, but for the order of new objects. -/
theorem AW_treeX (hT : TabOk P T) {He H : Hp} {id : Nat} {tm tm1 : List LV} {H1 : Hp} {Q : Exit → List LV → Hp → Prop} (n z : Nat) (hm : P.follows .mixedOrders = true) (hn : ops.length = n)
    (h : AAnyX P T .any ops z H n (Array.replicate n false) tm H fun tm' H' => Wk He tm' H' tm1 H1) (hq : Q .normal tm1 H1) : AW P He (.region id ops.toArray true) tm H Q :=
  AW_treeW hT n hm hn (AAnyX_any h) hq
end
end Go.Proofs.Ytpbafacehmjdmaa

namespace Go.Proofs.Ytpbafacehmjdmaa
open Go.RowKit
set_option linter.unusedSimpArgs false
set_option linter.unusedVariables false
set_option maxRecDepth 100000

/-- The pointer .ptr id ver 0 leads to a struct of cells cs. -/
def PtL (H : Hp) (id ver : Nat) (cs : List LV) : Prop := ∃ ro el sz, H[id]? = some ⟨ver, ro, el, sz, cs⟩
section
variable {H K : Hp} {id ver : Nat} {cs : List LV}
theorem PtL.live (h : PtL H id ver cs) : liveO H id ver = true := by
  obtain ⟨ro, el, sz, h⟩ := h
  simp [liveO, h]
theorem PtL.get (h : PtL H id ver cs) (k : Nat) : hget H id ver k = cs[k]? := by
  obtain ⟨ro, el, sz, h⟩ := h
  simp [hget, h]
theorem PtL.gets (h : PtL H id ver cs) {n : Nat} (hn : n = cs.length) : hgets H id ver 0 n = some cs := by
  obtain ⟨ro, el, sz, h⟩ := h
  subst hn
  simp [hgets, h]
theorem PtL.app (h : PtL H id ver cs) (K : Hp) : PtL (H ++ K) id ver cs := by
  obtain ⟨ro, el, sz, h⟩ := h
  refine ⟨ro, el, sz, ?_⟩
  rw [List.getElem?_append_left]
  · exact h
  · rcases Nat.lt_or_ge id H.length with h' | h'
    · exact h'
    · simp [List.getElem?_eq_none h'] at h
theorem PtL_h0 {el sz : Nat} {ro : Bool} (h : K[0]? = some ⟨ver, ro, el, sz, cs⟩) : PtL (H ++ K) H.length ver cs := ⟨_, _, _, (hp_get0 _ _).trans h⟩
theorem PtL_hj {el sz j : Nat} {ro : Bool} (h : K[j]? = some ⟨ver, ro, el, sz, cs⟩) : PtL (H ++ K) (H.length + j) ver cs := ⟨_, _, _, (hp_getj _ _ _).trans h⟩
theorem PtL.liveA (h : PtL H id ver cs) (K : Hp) : liveO (H ++ K) id ver = true := (h.app K).live
theorem PtL.getA (h : PtL H id ver cs) (K : Hp) (k : Nat) : hget (H ++ K) id ver k = cs[k]? := (h.app K).get k
theorem PtL.getsA (h : PtL H id ver cs) (K : Hp) {n : Nat} (hn : n = cs.length) : hgets (H ++ K) id ver 0 n = some cs := (h.app K).gets hn
end
end Go.Proofs.Ytpbafacehmjdmaa

namespace Go.Proofs.Ytpbafacehmjdmaa
open Go.RowKit
set_option linter.unusedSimpArgs false
set_option linter.unusedVariables false
set_option linter.unusedSectionVars false
set_option maxRecDepth 100000

section
variable {P : Program} {T : Tab} {ops : List Oper}
theorem AW_treeP1 (hT : TabOk P T) {He H0 R : Hp} {o0 : AO} {id : Nat} {tm tm1 : List LV} {H1 : Hp} {Q : Exit → List LV → Hp → Prop} (n z : Nat) (hm : P.follows .mixedOrders = true) (hn : ops.length = n)
    (h : AAnyX P T .any ops z (H0 ++ [o0]) n (Array.replicate n false) tm (H0 ++ (o0 :: R)) fun tm' H' => Wk He tm' H' tm1 H1) (hq : Q .normal tm1 H1) : AW P He (.region id ops.toArray true) tm (H0 ++ (o0 :: R)) Q :=
  AW_treeW hT n hm hn (AAnyX_any h) hq
theorem AW_treeP2 (hT : TabOk P T) {He H0 R : Hp} {o0 o1 : AO} {id : Nat} {tm tm1 : List LV} {H1 : Hp} {Q : Exit → List LV → Hp → Prop} (n z : Nat) (hm : P.follows .mixedOrders = true) (hn : ops.length = n)
    (h : AAnyX P T .any ops z (H0 ++ [o0, o1]) n (Array.replicate n false) tm (H0 ++ (o0 :: o1 :: R)) fun tm' H' => Wk He tm' H' tm1 H1) (hq : Q .normal tm1 H1) : AW P He (.region id ops.toArray true) tm (H0 ++ (o0 :: o1 :: R)) Q :=
  AW_treeW hT n hm hn (AAnyX_any h) hq
theorem AW_treeP3 (hT : TabOk P T) {He H0 R : Hp} {o0 o1 o2 : AO} {id : Nat} {tm tm1 : List LV} {H1 : Hp} {Q : Exit → List LV → Hp → Prop} (n z : Nat) (hm : P.follows .mixedOrders = true) (hn : ops.length = n)
    (h : AAnyX P T .any ops z (H0 ++ [o0, o1, o2]) n (Array.replicate n false) tm (H0 ++ (o0 :: o1 :: o2 :: R)) fun tm' H' => Wk He tm' H' tm1 H1) (hq : Q .normal tm1 H1) : AW P He (.region id ops.toArray true) tm (H0 ++ (o0 :: o1 :: o2 :: R)) Q :=
  AW_treeW hT n hm hn (AAnyX_any h) hq
theorem AW_treeP4 (hT : TabOk P T) {He H0 R : Hp} {o0 o1 o2 o3 : AO} {id : Nat} {tm tm1 : List LV} {H1 : Hp} {Q : Exit → List LV → Hp → Prop} (n z : Nat) (hm : P.follows .mixedOrders = true) (hn : ops.length = n)
    (h : AAnyX P T .any ops z (H0 ++ [o0, o1, o2, o3]) n (Array.replicate n false) tm (H0 ++ (o0 :: o1 :: o2 :: o3 :: R)) fun tm' H' => Wk He tm' H' tm1 H1) (hq : Q .normal tm1 H1) : AW P He (.region id ops.toArray true) tm (H0 ++ (o0 :: o1 :: o2 :: o3 :: R)) Q :=
  AW_treeW hT n hm hn (AAnyX_any h) hq
theorem AW_treeP5 (hT : TabOk P T) {He H0 R : Hp} {o0 o1 o2 o3 o4 : AO} {id : Nat} {tm tm1 : List LV} {H1 : Hp} {Q : Exit → List LV → Hp → Prop} (n z : Nat) (hm : P.follows .mixedOrders = true) (hn : ops.length = n)
    (h : AAnyX P T .any ops z (H0 ++ [o0, o1, o2, o3, o4]) n (Array.replicate n false) tm (H0 ++ (o0 :: o1 :: o2 :: o3 :: o4 :: R)) fun tm' H' => Wk He tm' H' tm1 H1) (hq : Q .normal tm1 H1) : AW P He (.region id ops.toArray true) tm (H0 ++ (o0 :: o1 :: o2 :: o3 :: o4 :: R)) Q :=
  AW_treeW hT n hm hn (AAnyX_any h) hq
theorem AW_treeP6 (hT : TabOk P T) {He H0 R : Hp} {o0 o1 o2 o3 o4 o5 : AO} {id : Nat} {tm tm1 : List LV} {H1 : Hp} {Q : Exit → List LV → Hp → Prop} (n z : Nat) (hm : P.follows .mixedOrders = true) (hn : ops.length = n)
    (h : AAnyX P T .any ops z (H0 ++ [o0, o1, o2, o3, o4, o5]) n (Array.replicate n false) tm (H0 ++ (o0 :: o1 :: o2 :: o3 :: o4 :: o5 :: R)) fun tm' H' => Wk He tm' H' tm1 H1) (hq : Q .normal tm1 H1) : AW P He (.region id ops.toArray true) tm (H0 ++ (o0 :: o1 :: o2 :: o3 :: o4 :: o5 :: R)) Q :=
  AW_treeW hT n hm hn (AAnyX_any h) hq
end
end Go.Proofs.Ytpbafacehmjdmaa

namespace Go.Proofs.Ytpbafacehmjdmaa
open Go.RowKit
set_option linter.unusedSimpArgs false
set_option linter.unusedVariables false

/-- The first region's number of a code. -/
def firstR : Code → Nat
  | .region id _ _ => id
  | .seq x _ => firstR x
  | .block _ c => firstR c
  | .loop c => firstR c
  | _ => 1000000
theorem AW_seqN {P : Program} {He H : Hp} {tm : List LV} {Q : Exit → List LV → Hp → Prop} {x y : Code} (L : List Nat) (hn : L.contains (firstR x) = false) (h : ∀ K : List LV → Hp → Prop, (∀ tm H, AW P He y tm H Q → K tm H) → AW P He x tm H (thenA K Q)) : AW P He (.seq x y) tm H Q := AW_seq h
theorem AW_seqM {P : Program} {He H : Hp} {tm : List LV} {Q : Exit → List LV → Hp → Prop} {x y : Code} {ι : Type} (ms : List Nat) (vals : ι → List (Nat × LV)) (Hf : ι → Hp) (ok : ι → Prop)
    (hx : ∀ K : List LV → Hp → Prop, (∀ tm' H' j, ok j → JL tm' (setAll (junkAll tm ms) (vals j)) → H' = Hf j → K tm' H') → AW P He x tm H (thenA K Q))
    (hy : ∀ j, ok j → AW P He y (setAll (junkAll tm ms) (vals j)) (Hf j) Q) : AW P He (.seq x y) tm H Q :=
  AW_seq fun K hK => hx K fun tm' H' j h1 h2 h3 => by
    subst h3
    exact hK _ _ (AW.weak (Wk.junk h2) (hy j h1))
end Go.Proofs.Ytpbafacehmjdmaa

namespace Go.Proofs.Ytpbafacehmjdmaa
open Go.RowKit
set_option linter.unusedSimpArgs false
set_option linter.unusedVariables false
set_option linter.unusedSectionVars false
set_option maxRecDepth 100000

section
variable {P : Program} {T : Tab} {ops : List Oper} {md : Region.Mode}
inductive Anc (md : Region.Mode) (ops : List Oper) : Nat → Nat → Prop where
  | base {z i : Nat} {o : Oper} {e : Edge} (ho : ops[z]? = some o) (he : e ∈ o.after) (hb : Region.binds md e = true) (hi : e.on = i) : Anc md ops z i
  | step {z i : Nat} {o : Oper} {e : Edge} (ho : ops[z]? = some o) (he : e ∈ o.after) (hb : Region.binds md e = true) (h : Anc md ops e.on i) : Anc md ops z i
def ancB (md : Region.Mode) (ops : List Oper) : Nat → Nat → Nat → Bool
  | 0, _, _ => false
  | f + 1, z, i => match ops[z]? with
    | some o => o.after.any fun e => Region.binds md e && (e.on == i || ancB md ops f e.on i)
    | none => false
theorem ancB_sound : ∀ (f z i : Nat), ancB md ops f z i = true → Anc md ops z i
  | 0, z, i, h => by cases h
  | f + 1, z, i, h => by
    unfold ancB at h
    split at h
    · rename_i o ho
      rw [Array.any_eq_true'] at h
      obtain ⟨e, he, hb⟩ := h
      simp only [Bool.and_eq_true, Bool.or_eq_true, beq_iff_eq] at hb
      rcases hb.2 with h1 | h1
      · exact Anc.base ho he hb.1 h1
      · exact Anc.step ho he hb.1 (ancB_sound f _ _ h1)
    · cases h
def DC (md : Region.Mode) (ops : List Oper) (listed : Array Bool) : Prop := ∀ (k : Nat) (o : Oper), ops[k]? = some o → listed.getD k false = true → ∀ e ∈ o.after, Region.binds md e = true → listed.getD e.on false = true
def dcB (md : Region.Mode) (ops : List Oper) (listed : Array Bool) : Bool := (List.range ops.length).all fun k => !(listed.getD k false) || match ops[k]? with
  | some o => o.after.all fun e => !(Region.binds md e) || listed.getD e.on false
  | none => true
theorem dcB_sound {listed : Array Bool} (h : dcB md ops listed = true) : DC md ops listed := by
  intro k o ho hk e he hb
  have hlt : k < ops.length := by
    rcases Nat.lt_or_ge k ops.length with h' | h'
    · exact h'
    · rw [List.getElem?_eq_none h'] at ho; cases ho
  have h1 := List.all_eq_true.1 h k (List.mem_range.2 hlt)
  rw [hk, ho] at h1
  simp only [Bool.not_true, Bool.false_or] at h1
  rw [Array.all_eq_true'] at h1
  have h2 := h1 e he
  rw [hb] at h2
  simpa using h2
theorem DC.anc {listed : Array Bool} (hd : DC md ops listed) {z i : Nat} (h : Anc md ops z i) : ∀ o, ops[z]? = some o → (∀ e ∈ o.after, Region.binds md e = true → listed.getD e.on false = true) → listed.getD i false = true := by
  induction h with
  | base ho he hb hi => intro o ho' hall; rw [ho] at ho'; cases ho'; rw [← hi]; exact hall _ he hb
  | step ho he hb h ih =>
    intro o ho' hall
    rw [ho] at ho'; cases ho'
    have hk := hall _ he hb
    cases h with
    | base ho2 he2 hb2 hi2 => exact ih _ ho2 (hd _ _ ho2 hk)
    | step ho2 he2 hb2 h2 => exact ih _ ho2 (hd _ _ ho2 hk)
theorem DC.set {listed : Array Bool} (hd : DC md ops listed) {j : Nat} (hj : j ∈ Region.ready md ops.toArray listed) : DC md ops (listed.setIfInBounds j true) := by
  intro k o ho hk e he hb
  obtain ⟨_, oj, hoj, hall⟩ := mem_ready.1 hj
  rw [List.getElem?_toArray] at hoj
  by_cases hkj : j = k
  · subst hkj
    rw [ho] at hoj; cases hoj
    exact getD_set_true (hall e he hb)
  · rw [getD_set_ne false hkj] at hk
    exact getD_set_true (hd k o ho hk e he hb)

/-- Operations that only add new objects, but for those of Z. -/
def AAnyZ (P : Program) (T : Tab) (md : Region.Mode) (ops : List Oper) (Z : List Nat) (Hs : Hp) : Nat → Array Bool → List LV → Hp → (List LV → Hp → Prop) → Prop
  | 0, listed, tm, H, K => Region.ready md ops.toArray listed = [] ∧ K tm H
  | f + 1, listed, tm, H, K => Region.ready md ops.toArray listed ≠ [] ∧ ∀ i ∈ Region.ready md ops.toArray listed, match ops[i]? with
    | some o => AOp P T ops o tm H fun tm' H' => (Z.contains i = true ∨ ∃ L, H' = Hs ++ L) ∧ AAnyZ P T md ops Z Hs f (listed.setIfInBounds i true) tm' H' K
    | none => False
def AAllZ (P : Program) (T : Tab) (md : Region.Mode) (ops : List Oper) (Z : List Nat) (Hs : Hp) (f : Nat) (listed : Array Bool) (tm : List LV) (H : Hp) (K : List LV → Hp → Prop) : List Nat → Prop
  | [] => True
  | i :: l => (match ops[i]? with
    | some o => AOp P T ops o tm H fun tm' H' => (Z.contains i = true ∨ ∃ L, H' = Hs ++ L) ∧ AAnyZ P T md ops Z Hs f (listed.setIfInBounds i true) tm' H' K
    | none => False) ∧ AAllZ P T md ops Z Hs f listed tm H K l
theorem AAllZ.mem {Z : List Nat} {f : Nat} {Hs : Hp} {listed : Array Bool} {tm : List LV} {H : Hp} {K : List LV → Hp → Prop} : ∀ {l : List Nat}, AAllZ P T md ops Z Hs f listed tm H K l → ∀ i ∈ l, match ops[i]? with
    | some o => AOp P T ops o tm H fun tm' H' => (Z.contains i = true ∨ ∃ L, H' = Hs ++ L) ∧ AAnyZ P T md ops Z Hs f (listed.setIfInBounds i true) tm' H' K
    | none => False
  | [], _, i, hi => by cases hi
  | j :: l, h, i, hi => by
    rcases List.mem_cons.1 hi with rfl | hi
    · exact h.1
    · exact h.2.mem i hi
theorem AAnyZ_leaf {Z : List Nat} {Hs : Hp} {listed : Array Bool} {tm : List LV} {H : Hp} {K : List LV → Hp → Prop} (hr : Region.ready md ops.toArray listed = []) (h : K tm H) : AAnyZ P T md ops Z Hs 0 listed tm H K := ⟨hr, h⟩
theorem AAnyZ_step {Z : List Nat} {f : Nat} {Hs : Hp} {listed : Array Bool} {tm : List LV} {H : Hp} {K : List LV → Hp → Prop} (i : Nat) (l : List Nat) (hr : Region.ready md ops.toArray listed = i :: l) (h : AAllZ P T md ops Z Hs f listed tm H K (i :: l)) : AAnyZ P T md ops Z Hs (f + 1) listed tm H K :=
  ⟨by rw [hr]; simp, fun j hj => by rw [hr] at hj; exact h.mem j hj⟩
theorem AAllZ_cons {Z : List Nat} {f i : Nat} {Hs : Hp} {l : List Nat} {listed : Array Bool} {tm : List LV} {H : Hp} {K0 : List LV → Hp → Prop} {o : Oper} (ho : ops[i]? = some o)
    (h : ∀ K : List LV → Hp → Prop, (∀ tm' H', (Z.contains i = true ∨ ∃ L, H' = Hs ++ L) → AAnyZ P T md ops Z Hs f (listed.setIfInBounds i true) tm' H' K0 → K tm' H') → AOp P T ops o tm H K) (hl : AAllZ P T md ops Z Hs f listed tm H K0 l) : AAllZ P T md ops Z Hs f listed tm H K0 (i :: l) :=
  ⟨by rw [ho]; exact h _ fun _ _ h1 h2 => ⟨h1, h2⟩, hl⟩
theorem AAllZ_nil {Z : List Nat} {f : Nat} {Hs : Hp} {listed : Array Bool} {tm : List LV} {H : Hp} {K0 : List LV → Hp → Prop} : AAllZ P T md ops Z Hs f listed tm H K0 [] := trivial
theorem AAnyZ_first {Z : List Nat} {i : Nat} {Hs : Hp} {oi : Oper} {x : LV} {K : List LV → Hp → Prop} (hi : ops[i]? = some oi) (hz : ∀ z, Z.contains z = true → Anc md ops z i) :
    ∀ (f : Nat) (listed : Array Bool) (tm : List LV) (H : Hp), DC md ops listed →
      (∀ j oj, ops[j]? = some oj → j ≠ i → listed.getD j true = false → (∀ e ∈ oj.after, Region.binds md e = true → e.on ≠ i) → oi.apart ops.toArray oj = true) →
      i ∈ Region.ready md ops.toArray listed → (∃ L, H = Hs ++ L) → YX T ops Hs oi x tm →
      AAnyZ P T md ops Z Hs f (listed.setIfInBounds i true) (putA tm oi.dst x) H K → AAnyZ P T md ops Z Hs (f + 1) listed tm H K := by
  intro f
  induction f with
  | zero =>
    intro listed tm H _ _ hr hH hy hh
    obtain ⟨L0, rfl⟩ := hH
    refine ⟨fun h => (by rw [h] at hr; cases hr), fun j hj => ?_⟩
    by_cases hji : j = i
    · subst hji; rw [hi]; exact hy.op ⟨Or.inr ⟨L0, rfl⟩, hh⟩
    · have := ready_mono hj hji
      rw [hh.1] at this; cases this
  | succ f ih =>
    intro listed tm H hd hfree hr hH hy hh
    obtain ⟨L0, rfl⟩ := hH
    have hun := (mem_ready.1 hr).1
    refine ⟨fun h => (by rw [h] at hr; cases hr), fun j hj => ?_⟩
    by_cases hji : j = i
    · subst hji; rw [hi]; exact hy.op ⟨Or.inr ⟨L0, rfl⟩, hh⟩
    · have h1 := hh.2 j (ready_mono hj hji)
      obtain ⟨hjun, oj, hoj, hall⟩ := mem_ready.1 hj
      have hoj' : ops[j]? = some oj := by rw [List.getElem?_toArray] at hoj; exact hoj
      rw [hoj'] at h1 ⊢
      have hnot : ∀ e ∈ oj.after, Region.binds md e = true → e.on ≠ i := fun e he hb heq => by
        have h1 := hall e he hb
        rw [heq, getD_both hun] at h1
        cases h1
      have hap := hfree j oj hoj' hji hjun hnot
      obtain ⟨_, _, h3⟩ := Oper.apart_spec hap
      have h2 := AOp_put2 hap h1
      have hfree' : ∀ k ok, ops[k]? = some ok → k ≠ i → (listed.setIfInBounds j true).getD k true = false →
          (∀ e ∈ ok.after, Region.binds md e = true → e.on ≠ i) → oi.apart ops.toArray ok = true := fun k ok hk hki hun hno => by
        refine hfree k ok hk hki ?_ hno
        by_cases hjk : j = k
        · subst hjk; exact hjun
        · rw [getD_set_ne true hjk] at hun; exact hun
      refine AOp_mono (fun t H' h4 => ?_) h2
      obtain ⟨r, rfl, hext, hX⟩ := h4
      rcases hext with h0 | ⟨L, rfl⟩
      · have h5 := hd.anc (hz j h0) oj hoj' hall
        rw [getD_both hun] at h5
        cases h5
      · refine ⟨Or.inr ⟨L, rfl⟩, ih (listed.setIfInBounds j true) _ _ (hd.set hj) hfree' (ready_mono hr (Ne.symm hji)) ⟨L, rfl⟩ (hy.put h3) ?_⟩
        rw [Array.setIfInBounds_comm _ _ hji]
        exact hX
theorem AAnyZ_quiet {Z : List Nat} {f : Nat} {Hs : Hp} {listed : Array Bool} {tm : List LV} {H : Hp} {K0 : List LV → Hp → Prop} (i : Nat) {o : Oper} (ho : ops[i]? = some o) (hp : quietB o.op = true)
    (hr : (Region.ready md ops.toArray listed).contains i = true) (hf : Region.free md ops.toArray listed i = true) (hz : (Z.all fun z => ancB md ops ops.length z i) = true) (hdc : dcB md ops listed = true)
    (hH : ∃ L, H = Hs ++ L) (h : ∀ K : List LV → Hp → Prop, (∀ tm', AAnyZ P T md ops Z Hs f (listed.setIfInBounds i true) tm' H K0 → K tm' Hs) → AOp P T ops o tm Hs K) : AAnyZ P T md ops Z Hs (f + 1) listed tm H K0 := by
  obtain ⟨x, h1, h2⟩ := YX_of hp (h (fun tm' _ => AAnyZ P T md ops Z Hs f (listed.setIfInBounds i true) tm' H K0) fun _ h => h)
  exact AAnyZ_first ho (fun z hzz => ancB_sound _ _ _ (List.all_eq_true.1 hz z (by simpa using hzz))) f listed tm H (dcB_sound hdc) (fun j oj hj => Region.free_spec (by rw [List.getElem?_toArray]; exact ho) hf j oj (by rw [List.getElem?_toArray]; exact hj)) (by simpa using hr) hH h1 h2
theorem AAnyZ_any {Z : List Nat} {Hs : Hp} : ∀ {f : Nat} {listed : Array Bool} {tm : List LV} {H : Hp} {K : List LV → Hp → Prop}, AAnyZ P T md ops Z Hs f listed tm H K → AAny P T md ops f listed tm H K
  | 0, _, _, _, _, h => h
  | f + 1, listed, tm, H, K, h => ⟨h.1, fun i hi => by
      have := h.2 i hi
      split at this
      · rename_i o ho
        rw [ho]
        exact AOp_mono (fun _ _ hh => AAnyZ_any hh.2) this
      · exact this.elim⟩
/-- A drawn region: operations that only look or make new objects, and behind all of them those of Z. -/
theorem AW_treeZ (hT : TabOk P T) {He H : Hp} {id : Nat} {tm tm1 : List LV} {H1 : Hp} {Q : Exit → List LV → Hp → Prop} (n : Nat) (Z : List Nat) (hm : P.follows .mixedOrders = true) (hn : ops.length = n)
    (h : AAnyZ P T .any ops Z H n (Array.replicate n false) tm H fun tm' H' => Wk He tm' H' tm1 H1) (hq : Q .normal tm1 H1) : AW P He (.region id ops.toArray true) tm H Q :=
  AW_treeW hT n hm hn (AAnyZ_any h) hq
end
end Go.Proofs.Ytpbafacehmjdmaa

