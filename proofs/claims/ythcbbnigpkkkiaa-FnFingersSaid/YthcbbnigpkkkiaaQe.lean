/- Peeling: rows of whole numbers, plainly, and where they lie. -/
import Derived.Test.YthcbbnigpkkkiaaQd
import Derived.Test.YthcbbnigpkkkiaaHl
import Derived.Test.YthcbbnigpkkkiaaZt
namespace Go.Proofs.Ythcbbnigpkkkiaa
open Go.RowKit
set_option linter.unusedSimpArgs false
set_option linter.unusedVariables false
set_option maxRecDepth 100000

/-! Plainly. -/
/-- A row of one value a cell. -/
def rowC {α : Type} (m : Nat) (f : Nat → α) : List α := (List.range m).map f
/-- The first j cells of a key have the new value. -/
def mixH {α : Type} (n s k : Int) (j : Nat) (f g : Nat → α) : Nat → α := fun c => if (thrL k n s j).contains (c : Int) then f c else g c
section
variable {α : Type} {n s k : Int} {m j : Nat} {f g : Nat → α}
theorem rowC_len : (rowC m f).length = m := by simp [rowC]
theorem rowC_get {c : Nat} (h : c < m) : (rowC m f)[c]? = some (f c) := by simp [rowC, h]
theorem rowC_ix [Inhabited α] {c : Nat} (h : c < m) : ix (rowC m f) c = f c := by
  rw [ix_eq _ _ (by rw [rowC_len]; exact h)]; simp [rowC]
theorem rowC_congr {f' : Nat → α} (h : ∀ c, c < m → f c = f' c) : rowC m f = rowC m f' := by
  unfold rowC
  exact List.map_congr_left fun c hc => h c (List.mem_range.1 hc)
theorem mixH_zero : mixH n s k 0 f g = g := by funext c; simp [mixH, thrL]
theorem pkI_lt (hn : 1 ≤ n ∧ n ≤ 128) {i j : Nat} (hi : i < j) (hj : j < 3) : pkI k n s i < pkI k n s j := by
  have h1 := pkI_b (k := k) (s := s) hn (j := i) (by omega)
  have h2 := pkI_b (k := k) (s := s) hn hj
  have h3 : ((i : Int) = 0 ∧ (j : Int) = 1) ∨ ((i : Int) = 0 ∧ (j : Int) = 2) ∨ ((i : Int) = 1 ∧ (j : Int) = 2) := by omega
  rcases h3 with ⟨a, b⟩ | ⟨a, b⟩ | ⟨a, b⟩ <;> rw [a] at h1 <;> rw [b] at h2 <;> omega
theorem pkI_new (hn : 1 ≤ n ∧ n ≤ 128) {j : Nat} (hj : j < 3) : (thrL k n s j).contains (pkI k n s j) = false := by
  cases e : (thrL k n s j).contains (pkI k n s j) with
  | false => rfl
  | true =>
    have h1 := List.contains_iff_mem.1 e
    unfold thrL at h1
    obtain ⟨i, h2, h3⟩ := List.mem_map.1 h1
    have := pkI_lt (k := k) (s := s) hn (List.mem_range.1 h2) hj
    omega
theorem mixH_at (hn : 1 ≤ n ∧ n ≤ 128) (hj : j < 3) {c : Nat} (hc : pkI k n s j = (c : Int)) : mixH n s k j f g c = g c := by
  unfold mixH; rw [← hc, pkI_new hn hj]; rfl
theorem rowC_set (hj : j < 3) {c : Nat} (hc : pkI k n s j = (c : Int)) (hm : c < m) : (rowC m (mixH n s k j f g)).set c (f c) = rowC m (mixH n s k (j + 1) f g) := by
  apply List.ext_getElem?
  intro i
  rcases Nat.lt_or_ge i m with hi | hi
  · rw [rowC_get hi]
    by_cases e : c = i
    · subst e
      rw [List.getElem?_set_self (by rw [rowC_len]; exact hm)]
      unfold mixH
      rw [thrL_succ, if_pos (by simp [hc])]
    · rw [List.getElem?_set_ne e, rowC_get hi]
      unfold mixH
      rw [thrL_succ, hc]
      have : (thrL k n s j ++ [(c : Int)]).contains (i : Int) = (thrL k n s j).contains (i : Int) := by
        rw [Bool.eq_iff_iff]; simp; omega
      rw [this]
  · rw [List.getElem?_eq_none (by rw [List.length_set, rowC_len]; exact hi), List.getElem?_eq_none (by rw [rowC_len]; exact hi)]
end
section
variable {n s k : Int} {m : Nat} {left : List Int}
theorem holdL_add : mixH n s k 3 (fun c => holdL n s left c ++ [k]) (holdL n s left) = holdL n s (left ++ [k]) := by
  funext c
  rw [holdL_app, holdL_one]
  unfold mixH
  split
  · rfl
  · rw [List.append_nil]
theorem holdL_out : mixH n s k 3 (fun c => keepF (fun x => x == k) (holdL n s left c)) (holdL n s left) = holdL n s (left.filter fun x => !(x == k)) := by
  funext c
  rw [holdL_del]
  unfold mixH
  split
  · rfl
  · rename_i h
    rw [keepF_none]
    intro x hx
    unfold holdL at hx
    have h1 := (List.mem_filter.1 hx).2
    cases e : x == k with
    | false => rfl
    | true =>
      rw [beq_iff_eq] at e; subst e
      exact absurd h1 h
theorem holdL_le (c : Nat) : (holdL n s left c).length ≤ left.length := List.length_filter_le ..
theorem holdR_row : holdR n s left = rowC (3 * n).toNat (holdL n s left) := rfl
end
/-- The row that is peeled: the only key of the first cell with one. -/
theorem oneI_key {n s : Int} {left : List Int} (hnd : left.Nodup) (h0 : 0 ≤ oneI n s left) :
    ∃ c i : Nat, oneI n s left = (c : Nat) ∧ c < (3 * n).toNat ∧ i < left.length ∧ holdL n s left c = [ix left i] ∧ (∀ j, j < left.length → (thrL (ix left j) n s 3).contains (c : Int) = decide (j = i)) ∧ (left.filter fun x => !(x == ix left i)) = left.take i ++ left.drop (i + 1) ∧ (∀ b, b < c → ((holdL n s left b).length == 1) = false) := by
  obtain ⟨c, hc, hcl, hp, hlow⟩ := idxF_spec (p := fun r : List Int => r.length == 1) (xs := holdR n s left) (by unfold oneI at h0; omega)
  rw [holdR_len] at hcl
  rw [holdR_ix _ _ _ hcl] at hp
  simp only [beq_iff_eq] at hp
  obtain ⟨key, hk⟩ := List.length_eq_one_iff.1 hp
  have hmem : key ∈ holdL n s left c := by rw [hk]; exact List.mem_singleton.2 rfl
  unfold holdL at hmem
  obtain ⟨h1, h2⟩ := List.mem_filter.1 hmem
  obtain ⟨i, hi, e⟩ := mem_ixQ h1
  refine ⟨c, i, hc, hcl, hi, by rw [hk, e], fun j hj => ?_, ?_, fun b hb => ?_⟩
  · rw [Bool.eq_iff_iff, decide_eq_true_iff]
    constructor
    · intro h3
      have h4 : ix left j ∈ holdL n s left c := List.mem_filter.2 ⟨ix_mem left j hj, h3⟩
      rw [hk, List.mem_singleton, ← e, ix_eq _ _ hj, ix_eq _ _ hi] at h4
      exact (List.getElem_inj hnd).1 h4
    · rintro rfl; rw [e]; exact h2
  · have h5 : left = left.take i ++ ix left i :: left.drop (i + 1) := by
      conv => lhs; rw [← List.take_append_drop i left]
      rw [ix_eq _ _ hi, ← List.drop_eq_getElem_cons hi]
    have h6 : (left.take i ++ ix left i :: left.drop (i + 1)).Nodup := h5 ▸ hnd
    rw [List.nodup_append] at h6
    obtain ⟨n1, n2, n3⟩ := h6
    rw [List.nodup_cons] at n2
    have key : ∀ l : List Int, ix left i ∉ l → (l.filter fun x => !(x == ix left i)) = l := fun l hl => by
      rw [List.filter_eq_self]
      intro x hx
      simp only [Bool.not_eq_true', beq_eq_false_iff_ne]
      rintro rfl; exact hl hx
    have h7 : ix left i ∉ left.take i := fun h => n3 _ h _ (List.mem_cons_self ..) rfl
    generalize hx : ix left i = x at *
    rw [h5, List.filter_append, List.filter_cons, key _ h7, key _ n2.1]
    simp
    rw [← h5]
  · have := hlow b hb
    rw [holdR_ix _ _ _ (by omega)] at this
    exact this
theorem peelG_step {n s : Int} {m : Nat} {left o t : List Int} {R : Option (List Int × List Int)} (h : peelG n s (m + 1) left o t = R) {c : Nat} (hc : oneI n s left = (c : Nat)) {key : Int} (hk : holdL n s left c = [key]) :
    peelG n s m (left.filter fun x => !(x == key)) (o ++ [key]) (t ++ [(c : Int)]) = R := by
  rw [← h]
  show _ = if oneI n s left < 0 then none else _
  rw [if_neg (by omega), hc, Int.toNat_natCast, hk]
  rfl
theorem peelG_none {n s : Int} {m : Nat} {left o t : List Int} (h : oneI n s left < 0) : peelG n s (m + 1) left o t = none := if_pos h
theorem peelG_len {n s : Int} : ∀ {m : Nat} {left o t o' t' : List Int}, peelG n s m left o t = some (o', t') → o'.length = o.length + m ∧ t'.length = t.length + m
  | 0, _, o, t, o', t', h => by cases h; exact ⟨rfl, rfl⟩
  | m + 1, left, o, t, o', t', h => by
    by_cases hc : oneI n s left < 0
    · rw [peelG_none hc] at h; cases h
    · unfold peelG at h
      rw [if_neg hc] at h
      have := peelG_len h
      simp only [List.length_append, List.length_cons, List.length_nil] at this
      omega
/-- What holds while keys are peeled. -/
structure pgI (n s : Int) (L r : Nat) (R : Option (List Int × List Int)) (left o t : List Int) : Prop where
  eq : peelG n s (L - r) left o t = R
  nd : left.Nodup
  key : (∀ x ∈ left, 0 ≤ x ∧ x ≤ 4294967295) ∧ ∀ x ∈ o, 0 ≤ x ∧ x ≤ 4294967295
  len : left.length + r = L
  lo : o.length = r
  lt : t.length = r
  tb : ∀ x ∈ t, 0 ≤ x ∧ x < ((3 * n).toNat : Int)
theorem pgI_start {n s : Int} {ks : List Int} {L : Nat} {R : Option (List Int × List Int)} (h1 : ks.Nodup) (h2 : ∀ x ∈ ks, 0 ≤ x ∧ x ≤ 4294967295) (h3 : ks.length = L) (h4 : peelG n s L ks [] [] = R) : pgI n s L 0 R ks [] [] :=
  ⟨h4, h1, ⟨h2, fun x hx => by cases hx⟩, h3, rfl, rfl, fun x hx => by cases hx⟩
theorem pgI.none {n s : Int} {L r : Nat} {R : Option (List Int × List Int)} {left o t : List Int} (h : pgI n s L r R left o t) (hr : r < L) (hn : oneI n s left < 0) : R = none := by
  rw [← h.eq, show L - r = (L - r - 1) + 1 by omega]; exact peelG_none hn
theorem pgI.step {n s : Int} {L r : Nat} {R : Option (List Int × List Int)} {left o t : List Int} (h : pgI n s L r R left o t) (hr : r < L) {c i : Nat} (h1 : oneI n s left = (c : Nat)) (h2 : c < (3 * n).toNat) (h3 : i < left.length) (h4 : holdL n s left c = [ix left i]) (h5 : (left.filter fun x => !(x == ix left i)) = left.take i ++ left.drop (i + 1)) :
    pgI n s L (r + 1) R (left.filter fun x => !(x == ix left i)) (o ++ [ix left i]) (t ++ [(c : Int)]) := by
  have hm := ix_mem left i h3
  have hl := h.len
  refine ⟨?_, h.nd.filter _, ⟨fun x hx => h.key.1 x (List.mem_filter.1 hx).1, fun x hx => ?_⟩, ?_, by rw [List.length_append, h.lo]; rfl, by rw [List.length_append, h.lt]; rfl, fun x hx => ?_⟩
  · refine peelG_step ?_ h1 h4
    rw [← h.eq, show L - r = (L - (r + 1)) + 1 by omega]
  · rcases List.mem_append.1 hx with hx | hx
    · exact h.key.2 x hx
    · rw [List.mem_singleton.1 hx]; exact h.key.1 _ hm
  · rw [h5, List.length_append, List.length_take, List.length_drop]; omega
  · rcases List.mem_append.1 hx with hx | hx
    · exact h.tb x hx
    · rw [List.mem_singleton.1 hx]; omega
theorem pgI.fin {n s : Int} {L : Nat} {o' t' : List Int} : ∀ (m r : Nat) (left o t : List Int), r + m = L → pgI n s L r (some (o', t')) left o t → o'.length = L ∧ t'.length = L ∧ (∀ x ∈ o', 0 ≤ x ∧ x ≤ 4294967295) ∧ ∀ x ∈ t', 0 ≤ x ∧ x < ((3 * n).toNat : Int)
  | 0, r, left, o, t, hm, h => by
    obtain rfl : r = L := by omega
    have := h.eq
    rw [Nat.sub_self] at this
    cases this
    exact ⟨h.lo, h.lt, h.key.2, h.tb⟩
  | m + 1, r, left, o, t, hm, h => by
    by_cases hneg : oneI n s left < 0
    · have := h.none (by omega) hneg; cases this
    · obtain ⟨c, i, hc, hcM, hil, hhl, -, hflt, -⟩ := oneI_key (n := n) (s := s) h.nd (by omega)
      exact pgI.fin m (r + 1) _ _ _ (by omega) (h.step (by omega) hc hcM hil hhl hflt)
/-! The marks. -/
def xorF (cells : List Int) (tk : Int) (mk : Int) (out : List Int) : Nat → Int
  | 0 => mk
  | j + 1 => if ix cells j == tk then xorF cells tk mk out j else ibits .xor .i64 (xorF cells tk mk out j) (ix out (ix cells j).toNat)
def outS (n s : Int) (o t : List Int) : Nat → List Int
  | 0 => List.replicate (3 * n).toNat 0
  | j + 1 => (outS n s o t j).set (ix t (o.length - 1 - j)).toNat (xorF (thrL (ix o (o.length - 1 - j)) n s 3) (ix t (o.length - 1 - j)) (mkI (ix o (o.length - 1 - j)) s) (outS n s o t j) 3)
theorem outS_len (n s : Int) (o t : List Int) : ∀ j, (outS n s o t j).length = (3 * n).toNat
  | 0 => List.length_replicate ..
  | j + 1 => by show (List.set _ _ _).length = _; rw [List.length_set]; exact outS_len n s o t j
/-! Where the rows lie. -/
def cRi (p : Nat × Nat × List Int) : LV := .sl p.1 p.2.1 0 p.2.2.length none
def oRi (p : Nat × Nat × List Int) : AO := ⟨p.2.1, false, 2, 1, p.2.2.map (LV.int .i64)⟩
def wRi (P : List (Nat × Nat × List Int)) : List (List Int) := P.map fun p => p.2.2
theorem ix_mapI {α β : Type} [Inhabited α] [Inhabited β] (f : α → β) {xs : List α} {k : Nat} (h : k < xs.length) : ix (xs.map f) k = f (ix xs k) := by
  rw [ix_eq _ _ (by rw [List.length_map]; exact h), ix_eq _ _ h, List.getElem_map]
theorem ix_setI {α : Type} [Inhabited α] {xs : List α} {k j : Nat} {x : α} (hj : j < xs.length) : ix (xs.set k x) j = if k = j then x else ix xs j := by
  rw [ix_eq _ _ (by simpa using hj), List.getElem_set, ix_eq _ _ hj]
theorem wRi_len (P : List (Nat × Nat × List Int)) : (wRi P).length = P.length := List.length_map ..
theorem wRi_ix {P : List (Nat × Nat × List Int)} {k : Nat} (h : k < P.length) : ix (wRi P) k = (ix P k).2.2 := ix_mapI _ h
theorem lt_ofI {X : Hp} {i : Nat} {o : AO} (h : X[i]? = some o) : i < X.length := by
  rcases Nat.lt_or_ge i X.length with h' | h'
  · exact h'
  · rw [List.getElem?_eq_none h'] at h; cases h
theorem at_appI {Z : Hp} {i : Nat} {o : AO} (h : Z[i]? = some o) (L : Hp) : (Z ++ L)[i]? = some o := by rw [List.getElem?_append_left (lt_ofI h)]; exact h
theorem hget_atI {H : Hp} {id ver el sz off : Nat} {ro : Bool} {cs : List LV} (h : H[id]? = some ⟨ver, ro, el, sz, cs⟩) : hget H id ver off = cs[off]? := by simp [hget, h]
theorem liveO_atI {H : Hp} {id ver el sz : Nat} {ro : Bool} {cs : List LV} (h : H[id]? = some ⟨ver, ro, el, sz, cs⟩) : liveO H id ver = true := by simp [liveO, h]
theorem hputA_atI {H : Hp} {id ver el sz off : Nat} {cs ys : List LV} (h : H[id]? = some ⟨ver, false, el, sz, cs⟩) (h1 : off + ys.length ≤ cs.length) : hput H id ver off ys = some (H.set id ⟨ver, false, el, sz, sets cs off ys⟩) := by
  simp [hput, h, h1]
theorem pre_setI {H X : Hp} (h : ∃ K, X = H ++ K) {b : Nat} (hb : H.length ≤ b) (o : AO) : ∃ K, X.set b o = H ++ K := by
  obtain ⟨K, e⟩ := h
  exact ⟨K.set (b - H.length) o, by rw [e, List.set_append_right _ _ hb]⟩
structure LSi (H X : Hp) (A : Nat) (P : List (Nat × Nat × List Int)) : Prop where
  pre : ∃ K, X = H ++ K
  out : X[A]? = some ⟨0, false, 24, 1, P.map cRi⟩
  lo : H.length ≤ A
  row : ∀ k, k < P.length → X[(ix P k).1]? = some (oRi (ix P k)) ∧ H.length ≤ (ix P k).1 ∧ (ix P k).1 ≠ A
  nd : ∀ i k, i < P.length → k < P.length → i ≠ k → (ix P i).1 ≠ (ix P k).1
section
variable {H X Y : Hp} {A k : Nat} {P : List (Nat × Nat × List Int)}
theorem LSi.ltA (h : LSi H X A P) : A < X.length := lt_ofI h.out
theorem LSi.ltk (h : LSi H X A P) (hk : k < P.length) : (ix P k).1 < X.length := lt_ofI (h.row k hk).1
theorem LSi.lenX (h : LSi H X A P) : H.length ≤ X.length := by obtain ⟨K, e⟩ := h.pre; rw [e, List.length_append]; omega
theorem LSi.app (h : LSi H X A P) (K : Hp) : LSi H (X ++ K) A P := by
  obtain ⟨⟨K0, e0⟩, h2, h3, h4, h5⟩ := h
  exact ⟨⟨K0 ++ K, by rw [e0, List.append_assoc]⟩, at_appI h2 K, h3, fun k hk => ⟨at_appI (h4 k hk).1 K, (h4 k hk).2⟩, h5⟩
theorem LSi.setN (h : LSi H X A P) {b : Nat} (o : AO) (hb : H.length ≤ b) (hA : A ≠ b) (hn : ∀ k, k < P.length → (ix P k).1 ≠ b) : LSi H (X.set b o) A P :=
  ⟨pre_setI h.pre hb o, by rw [List.getElem?_set_ne (Ne.symm hA)]; exact h.out, h.lo, fun k hk => ⟨by rw [List.getElem?_set_ne (Ne.symm (hn k hk))]; exact (h.row k hk).1, (h.row k hk).2⟩, h.nd⟩
theorem LSi.putOld (h : LSi H X A P) (hk : k < P.length) (v' : Nat) (ws : List Int) :
    LSi H ((X.set (ix P k).1 ⟨v', false, 2, 1, ws.map (LV.int .i64)⟩).set A ⟨0, false, 24, 1, (P.map cRi).set k (.sl (ix P k).1 v' 0 ws.length none)⟩) A (P.set k ((ix P k).1, v', ws)) := by
  obtain ⟨r1, r2, r3⟩ := h.row k hk
  refine ⟨pre_setI (pre_setI h.pre r2 _) h.lo _, ?_, h.lo, fun j hj => ?_, fun i j hi hj hij => ?_⟩
  · rw [List.getElem?_set_self (by rw [List.length_set]; exact h.ltA), List.map_set]; rfl
  · rw [List.length_set] at hj
    rw [ix_setI hj]
    split
    · exact ⟨by rw [List.getElem?_set_ne (Ne.symm r3), List.getElem?_set_self (lt_ofI r1)]; rfl, r2, r3⟩
    · rename_i hne
      obtain ⟨q1, q2, q3⟩ := h.row j hj
      exact ⟨by rw [List.getElem?_set_ne (Ne.symm q3), List.getElem?_set_ne (h.nd k j hk hj hne)]; exact q1, q2, q3⟩
  · rw [List.length_set] at hi hj
    rw [ix_setI hi, ix_setI hj]
    split
    · split
      · omega
      · rename_i e1 e2; exact h.nd k j hk hj e2
    · split
      · rename_i e1 e2; exact h.nd i k hi hk (Ne.symm e1)
      · exact h.nd i j hi hj hij
theorem LSi.rd (h : LSi H X A P) : RdL X (.sl A 0 0 P.length none) (P.map cRi) := RdL_id h.out (List.length_map ..)
theorem LSi.rdk (h : LSi H X A P) (hk : k < P.length) : RdL X (cRi (ix P k)) ((ix P k).2.2.map (LV.int .i64)) := RdL_id (h.row k hk).1 (List.length_map ..)
theorem LSi.rdl (h : LSi H X A P) : RdLI X (P.map cRi) (wRi P) := by
  unfold wRi
  refine All2.of_get (by simp) fun i a b ha hb => ?_
  rw [List.getElem?_map] at ha hb
  rcases Nat.lt_or_ge i P.length with hi | hi
  · rw [ix_get? _ _ hi] at ha hb
    cases ha; cases hb
    exact h.rdk hi
  · rw [List.getElem?_eq_none hi] at ha; cases ha
theorem LSi.gA (h : LSi H X A P) (j : Nat) : hget X A 0 j = (P.map cRi)[j]? := hget_atI h.out
theorem LSi.gAA (h : LSi H X A P) (L : Hp) (j : Nat) : hget (X ++ L) A 0 j = (P.map cRi)[j]? := hget_atI (at_appI h.out L)
theorem LSi.lvA (h : LSi H X A P) : liveO X A 0 = true := liveO_atI h.out
theorem LSi.lvAA (h : LSi H X A P) (L : Hp) : liveO (X ++ L) A 0 = true := liveO_atI (at_appI h.out L)
end
/-- The rows, and two growing rows of one's own. -/
structure PSi (H X : Hp) (A : Nat) (P : List (Nat × Nat × List Int)) (I J vi vj : Nat) (o t : List Int) : Prop where
  ls : LSi H X A P
  o1 : X[I]? = some ⟨vi, false, 2, 1, o.map (LV.int .i64)⟩
  t1 : X[J]? = some ⟨vj, false, 2, 1, t.map (LV.int .i64)⟩
  ij : I ≠ J
  iA : I ≠ A ∧ J ≠ A
  ik : ∀ k, k < P.length → (ix P k).1 ≠ I ∧ (ix P k).1 ≠ J
  lo : H.length ≤ I ∧ H.length ≤ J
section
variable {H X : Hp} {A k I J vi vj : Nat} {P : List (Nat × Nat × List Int)} {o t : List Int}
theorem LSi.startP (h : LSi H X A P) : PSi H (X ++ [⟨0, false, 2, 1, []⟩, ⟨0, false, 2, 1, []⟩]) A P X.length (X.length + 1) 0 0 [] [] := by
  have h1 := h.ltA
  have h2 := h.lenX
  exact ⟨h.app _, (hp_get0 _ _).trans rfl, (hp_getj _ _ _).trans rfl, by omega, ⟨by omega, by omega⟩, fun k hk => by have := h.ltk hk; omega, by omega, by omega⟩
theorem PSi.app (h : PSi H X A P I J vi vj o t) (K : Hp) : PSi H (X ++ K) A P I J vi vj o t :=
  ⟨h.ls.app K, at_appI h.o1 K, at_appI h.t1 K, h.ij, h.iA, h.ik, h.lo⟩
theorem PSi.pushI (h : PSi H X A P I J vi vj o t) (x : Int) : PSi H (X.set I ⟨vi + 1, false, 2, 1, o.map (LV.int .i64) ++ [.int .i64 x]⟩) A P I J (vi + 1) vj (o ++ [x]) t :=
  ⟨h.ls.setN _ h.lo.1 (Ne.symm h.iA.1) (fun k hk => (h.ik k hk).1), by rw [List.getElem?_set_self (lt_ofI h.o1), List.map_append]; rfl, by rw [List.getElem?_set_ne h.ij]; exact h.t1, h.ij, h.iA, h.ik, h.lo⟩
theorem PSi.pushJ (h : PSi H X A P I J vi vj o t) (x : Int) : PSi H (X.set J ⟨vj + 1, false, 2, 1, t.map (LV.int .i64) ++ [.int .i64 x]⟩) A P I J vi (vj + 1) o (t ++ [x]) :=
  ⟨h.ls.setN _ h.lo.2 (Ne.symm h.iA.2) (fun k hk => (h.ik k hk).2), by rw [List.getElem?_set_ne (Ne.symm h.ij)]; exact h.o1, by rw [List.getElem?_set_self (lt_ofI h.t1), List.map_append]; rfl, h.ij, h.iA, h.ik, h.lo⟩
theorem PSi.putOld (h : PSi H X A P I J vi vj o t) (hk : k < P.length) (v' : Nat) (ws : List Int) :
    PSi H ((X.set (ix P k).1 ⟨v', false, 2, 1, ws.map (LV.int .i64)⟩).set A ⟨0, false, 24, 1, (P.map cRi).set k (.sl (ix P k).1 v' 0 ws.length none)⟩) A (P.set k ((ix P k).1, v', ws)) I J vi vj o t := by
  obtain ⟨k1, k2⟩ := h.ik k hk
  refine ⟨h.ls.putOld hk v' ws, ?_, ?_, h.ij, h.iA, fun j hj => ?_, h.lo⟩
  · rw [List.getElem?_set_ne (Ne.symm h.iA.1), List.getElem?_set_ne k1]; exact h.o1
  · rw [List.getElem?_set_ne (Ne.symm h.iA.2), List.getElem?_set_ne k2]; exact h.t1
  · rw [List.length_set] at hj
    rw [ix_setI hj]
    split
    · exact ⟨k1, k2⟩
    · exact h.ik j hj
end
/-- Nil cells, told as new rows. -/
def emptyP (a m : Nat) : List (Nat × Nat × List Int) := (List.range m).map fun j => (a + j, 0, [])
theorem emptyP_len (a m : Nat) : (emptyP a m).length = m := by simp [emptyP]
theorem emptyP_ix (a m : Nat) {j : Nat} (h : j < m) : ix (emptyP a m) j = (a + j, 0, []) := by
  rw [ix_eq _ _ (by rw [emptyP_len]; exact h)]; simp [emptyP]
theorem emptyP_w (a m : Nat) : wRi (emptyP a m) = List.replicate m [] := by
  apply List.ext_getElem?
  intro i
  unfold wRi emptyP
  rcases Nat.lt_or_ge i m with h | h
  · rw [List.map_map, List.getElem?_map, List.getElem?_range h, List.getElem?_replicate, if_pos h]; rfl
  · rw [List.getElem?_eq_none (by simpa using h), List.getElem?_eq_none (by simpa using h)]
theorem virtR {He Z : Hp} {tm : List LV} (v el m : Nat) : ∀ j, j ≤ m → Wk He tm (Z ++ [⟨v, false, el, 1, List.replicate m .nils⟩]) tm (Z ++ (⟨v, false, el, 1, (emptyP (Z.length + 1) j).map cRi ++ List.replicate (m - j) .nils⟩ :: List.replicate j ⟨0, false, 2, 1, []⟩))
  | 0, _ => by
    simp only [emptyP, List.range_zero, List.map_nil, List.nil_append, Nat.sub_zero, List.replicate_zero]
    exact Wk.refl
  | j + 1, hj => by
    refine (virtR v el m j (by omega)).trans ?_
    have hw := Wk.virtC (He := He) (tm := tm) (H := Z ++ (⟨v, false, el, 1, (emptyP (Z.length + 1) j).map cRi ++ List.replicate (m - j) .nils⟩ :: List.replicate j ⟨0, false, 2, 1, []⟩)) (o := ⟨v, false, el, 1, (emptyP (Z.length + 1) j).map cRi ++ List.replicate (m - j) .nils⟩) Z.length j 2 1 ((hp_get0 _ _).trans rfl)
      (by rw [List.getElem?_append_right (by rw [List.length_map, emptyP_len]; exact Nat.le_refl _), List.length_map, emptyP_len, Nat.sub_self, show m - j = (m - (j + 1)) + 1 by omega, List.replicate_succ]; rfl)
    have e1 : ((emptyP (Z.length + 1) j).map cRi ++ List.replicate (m - j) LV.nils).set j (.sl (Z.length + 1 + j) 0 0 0 none) = (emptyP (Z.length + 1) (j + 1)).map cRi ++ List.replicate (m - (j + 1)) .nils := by
      rw [List.set_append_right _ _ (by rw [List.length_map, emptyP_len]; exact Nat.le_refl _), List.length_map, emptyP_len, Nat.sub_self, show m - j = (m - (j + 1)) + 1 by omega, List.replicate_succ, List.set_cons_zero]
      unfold emptyP
      rw [List.range_succ, List.map_append, List.map_append, List.append_assoc]
      rfl
    have e2 : (Z ++ ((⟨v, false, el, 1, (emptyP (Z.length + 1) j).map cRi ++ List.replicate (m - j) .nils⟩ : AO) :: List.replicate j ⟨0, false, 2, 1, []⟩)).length = Z.length + 1 + j := by simp; omega
    rw [e2] at hw
    simp only [e1] at hw
    rw [hp_set0, List.set_cons_zero, List.append_assoc, List.cons_append] at hw
    rw [List.replicate_succ']
    exact hw
theorem LSi.start (H : Hp) (m : Nat) : LSi H (H ++ (⟨0, false, 24, 1, (emptyP (H.length + 1) m).map cRi⟩ :: List.replicate m ⟨0, false, 2, 1, []⟩)) H.length (emptyP (H.length + 1) m) := by
  refine ⟨⟨_, rfl⟩, (hp_get0 _ _).trans rfl, Nat.le_refl _, fun k hk => ?_, fun i k hi hk hik => ?_⟩
  · rw [emptyP_len] at hk
    rw [emptyP_ix _ _ hk]
    refine ⟨?_, by simp only; omega, by simp only; omega⟩
    show (H ++ _)[H.length + 1 + k]? = _
    rw [Nat.add_assoc, hp_getj, Nat.add_comm 1 k, List.getElem?_cons_succ, List.getElem?_replicate, if_pos hk]; rfl
  · rw [emptyP_len] at hi hk
    rw [emptyP_ix _ _ hi, emptyP_ix _ _ hk]; simp only; omega
def pcV (ks : List Int) (n s : Int) : Bool := keysB ks && difB ks && inB n 1 128 && keyB s
def pcR (ks : List Int) (n s : Int) : Option (List Int × List Int) := if pcV ks n s then peelG n s ks.length ks [] [] else none
def pcOk (ks : List Int) (n s : Int) : Bool := (pcR ks n s).isSome
def pcL (ks : List Int) (n s : Int) : List Int := match pcR ks n s with
  | some (o, t) => outS n s o t o.length
  | none => []
theorem pcL_len (ks : List Int) (n s : Int) : (pcL ks n s).length ≤ 384 := by
  unfold pcL
  split
  · rename_i o t h
    rw [outS_len]
    unfold pcR at h
    split at h
    · rename_i hv
      unfold pcV inB at hv
      simp only [Bool.and_eq_true, decide_eq_true_eq] at hv
      omega
    · cases h
  · exact Nat.zero_le _
/-- An append of one to a row of one's own. -/
theorem aapp1 {el id ver n : Nat} {H : Hp} {cs : List LV} {x : LV} (hn : cs.length = n) (hc : cs.all LV.isCell = true) (hb : n ≤ 1048576) :
    ∀ te : TE, te.sz = 1 → te.by_ = 8 → aappO te el H id ver 0 n none 1 [x] (some ⟨ver, false, el, 1, cs⟩) = some (.sl id (ver + 1) 0 (n + 1) none, H.set id ⟨ver + 1, false, el, 1, cs ++ [x]⟩) := by
  intro te hs hby
  unfold aappO
  simp only [hs, hby]
  rw [if_neg (by simp), if_neg (by simp), if_neg (by simp), if_neg (by simp), if_neg (by omega), if_pos ⟨trivial, by omega, hc, by omega, by omega⟩]
theorem int_cells (xs : List Int) : (xs.map (LV.int .i64)).all LV.isCell = true := by rw [List.all_eq_true]; intro x hx; obtain ⟨y, _, rfl⟩ := List.mem_map.1 hx; rfl
theorem cRi_cells (P : List (Nat × Nat × List Int)) : (P.map cRi).all LV.isCell = true := by
  rw [List.all_eq_true]; intro x hx; obtain ⟨p, _, rfl⟩ := List.mem_map.1 hx; rfl
theorem thr_sets (k n s : Int) : sets [LV.int .i64 0, LV.int .i64 0, LV.int .i64 0] 0 ((thrL k n s 3).map (LV.int .i64)) = (thrL k n s 3).map (LV.int .i64) := rfl
theorem thr_put (k n s : Int) (el : Nat) (G : Hp) : hput ((⟨0, false, el, 3, [LV.int .i64 0, LV.int .i64 0, LV.int .i64 0]⟩ : AO) :: G) 0 0 0 ((thrL k n s 3).map (LV.int .i64)) = some (⟨0, false, el, 3, (thrL k n s 3).map (LV.int .i64)⟩ :: G) := rfl
theorem thr_hgets (k n s : Int) (el : Nat) (G : Hp) : hgets ((⟨0, false, el, 3, (thrL k n s 3).map (LV.int .i64)⟩ : AO) :: G) 0 0 0 3 = some ((thrL k n s 3).map (LV.int .i64)) := by
  simp [hgets, thrL_len, List.take_of_length_le]
theorem thr_get (k n s : Int) {j : Nat} (h : j < 3) : ((thrL k n s 3).map (LV.int .i64))[j]? = some (.int .i64 (pkI k n s j)) := by
  unfold thrL; simp [h]
theorem difB_nodup {ks : List Int} (h : difB ks = true) : ks.Nodup := by
  have : ∀ m, ∀ ks : List Int, ks.length = m → difB ks = true → ks.Nodup := by
    intro m
    induction m with
    | zero => intro ks hl _; rw [List.eq_nil_of_length_eq_zero hl]; exact List.nodup_nil
    | succ m ih =>
      intro ks hl h
      have hne : ks ≠ [] := by rintro rfl; cases hl
      rw [← List.dropLast_concat_getLast hne] at h ⊢
      rw [difB_snoc, Bool.and_eq_true] at h
      rw [List.nodup_append]
      refine ⟨ih _ (by rw [List.length_dropLast]; omega) h.1, by simp, fun a ha b hb e => ?_⟩
      rw [List.mem_singleton] at hb
      subst e; subst hb
      have := h.2
      simp at this
      exact this ha
  exact this _ ks rfl h
theorem thr_ix (k n s : Int) {j : Nat} (h : j < 3) : ix (thrL k n s 3) j = pkI k n s j := by
  rw [ix_eq _ _ (by rw [thrL_len]; exact h)]; simp [thrL]
theorem xorF_same {cells : List Int} {tk mk : Int} {out : List Int} {j : Nat} (h : ix cells j = tk) : xorF cells tk mk out (j + 1) = xorF cells tk mk out j := by
  show (if ix cells j == tk then _ else _) = _
  rw [if_pos (by simpa using h)]
theorem xorF_next {cells : List Int} {tk mk : Int} {out : List Int} {j : Nat} (h : ix cells j ≠ tk) : xorF cells tk mk out (j + 1) = ibits .xor .i64 (xorF cells tk mk out j) (ix out (ix cells j).toNat) := by
  show (if ix cells j == tk then _ else _) = _
  rw [if_neg (by simpa using h)]
theorem int_get {xs : List Int} {i : Nat} (h : i < xs.length) : (xs.map (LV.int .i64))[i]? = some (.int .i64 (ix xs i)) := by
  rw [List.getElem?_map, ix_get? _ _ h]; rfl
end Go.Proofs.Ythcbbnigpkkkiaa
