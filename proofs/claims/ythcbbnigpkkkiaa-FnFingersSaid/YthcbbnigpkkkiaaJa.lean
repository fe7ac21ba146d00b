/- Fingers in cells, plainly: what putting and taking out leave. -/
import Derived.Test.YthcbbnigpkkkiaaDf
namespace Go.Proofs.Ythcbbnigpkkkiaa
open Go.RowKit
set_option linter.unusedSimpArgs false
set_option linter.unusedVariables false
set_option maxRecDepth 100000

/-- The two houses of a finger, as one. -/
def fgC (s : Int) (m h : Nat) (f : Int) : Nat × Int := (min h (fgO s m f (h : Nat)).toNat, f)
def fgG (s : Int) (m p : Nat) (v : Int) : List (Nat × Int) := if v = 0 then [] else [fgC s m (p / 2) v]
def fgL (s : Int) (m : Nat) : Nat → List Int → List (Nat × Int)
  | _, [] => []
  | p, v :: t => fgG s m p v ++ fgL s m (p + 1) t
def fgK (s : Int) (m : Nat) (k : Int) : Nat × Int := fgC s m (pfH k s m) (fgF k s)
theorem swapP {α : Type} (a b c : List α) : List.Perm (a ++ (b ++ c)) (b ++ (a ++ c)) := by
  rw [← List.append_assoc, ← List.append_assoc]
  exact List.perm_append_comm.append_right c
theorem fgL_set (s : Int) (m : Nat) (x : Int) : ∀ (cs : List Int) (b p : Nat), p < cs.length → List.Perm (fgG s m (b + p) (ix cs p) ++ fgL s m b (cs.set p x)) (fgG s m (b + p) x ++ fgL s m b cs)
  | [], _, _, h => absurd h (Nat.not_lt_zero _)
  | v :: t, b, 0, _ => swapP _ _ _
  | v :: t, b, p + 1, h => by
    have := fgL_set s m x t (b + 1) p (by simpa using h)
    rw [show b + 1 + p = b + (p + 1) by omega] at this
    refine (swapP _ _ _).trans (List.Perm.trans ?_ (swapP _ _ _))
    exact this.append_left (fgG s m b v)
theorem fgL_len (s : Int) (m : Nat) : ∀ (cs : List Int) (b : Nat), (fgL s m b cs).length = cs.countP fun v => !(v == 0)
  | [], _ => rfl
  | v :: t, b => by
    show (fgG s m b v ++ fgL s m (b + 1) t).length = _
    rw [List.length_append, fgL_len s m t (b + 1), List.countP_cons]
    unfold fgG
    by_cases e : v = 0
    · simp [e]
    · simp [e]; omega
theorem fgL_zero (s : Int) (m : Nat) : ∀ (n b : Nat), fgL s m b (List.replicate n 0) = []
  | 0, _ => rfl
  | n + 1, b => by
    show fgG s m b 0 ++ fgL s m (b + 1) (List.replicate n 0) = []
    rw [fgL_zero s m n (b + 1)]; rfl
theorem fgL_nil {s : Int} {m : Nat} {cs : List Int} (h : fgL s m 0 cs = []) : ∀ x ∈ cs, x = 0 := fun x hx => by
  have h1 := fgL_len s m cs 0
  rw [h, List.length_nil] at h1
  have h2 := List.countP_eq_zero.1 h1.symm x hx
  simpa using h2
theorem fgL_mem {s : Int} {m : Nat} {c : Nat × Int} : ∀ (cs : List Int) (b : Nat), c ∈ fgL s m b cs → ∃ p, p < cs.length ∧ ix cs p ≠ 0 ∧ c = fgC s m ((b + p) / 2) (ix cs p)
  | [], _, h => by cases h
  | v :: t, b, h => by
    rcases List.mem_append.1 (show c ∈ fgG s m b v ++ fgL s m (b + 1) t from h) with h1 | h1
    · unfold fgG at h1
      split at h1
      · cases h1
      · rename_i hv
        exact ⟨0, by simp, hv, List.mem_singleton.1 h1⟩
    · obtain ⟨p, p1, p2, p3⟩ := fgL_mem t (b + 1) h1
      exact ⟨p + 1, by simpa using p1, p2, by rw [show b + (p + 1) = b + 1 + p by omega]; exact p3⟩
section
variable {s : Int} {m k : Nat}
theorem fgO_nat (hm : m = 2 ^ k) (hk : k < 8) (f : Int) {h : Nat} (hh : h < m) : ∃ o : Nat, fgO s m f (h : Nat) = (o : Int) ∧ o < m := by
  obtain ⟨a, b⟩ := fgO_b (s := s) (f := f) hm hk (by omega : 0 ≤ (h : Int)) (by omega)
  exact ⟨(fgO s m f (h : Nat)).toNat, by omega, by omega⟩
theorem fgO_inv (hm : m = 2 ^ k) (hk : k < 8) (f : Int) {h : Nat} (hh : h < m) : fgO s m f (fgO s m f (h : Nat)) = (h : Nat) := by
  have hm2 : m ≤ 128 := by rw [hm]; exact Nat.pow_le_pow_right (n := 2) (by omega) (by omega : k ≤ 7)
  obtain ⟨b0, b1⟩ := belowI_b f (saltI s 2) m (by omega) (by omega)
  obtain ⟨o, ho, hol⟩ := fgO_nat (s := s) hm hk f hh
  obtain ⟨b, hb⟩ : ∃ b : Nat, belowI f (saltI s 2) m = (b : Int) := ⟨(belowI f (saltI s 2) m).toNat, by omega⟩
  have e1 : o = h ^^^ b := by
    have := ho
    unfold fgO at this
    rw [hb, ibits_xor h b (by omega) (by omega)] at this
    omega
  rw [ho]
  unfold fgO
  rw [hb, ibits_xor o b (by omega) (by omega), e1, Nat.xor_assoc, Nat.xor_self, Nat.xor_zero]
theorem fgC_other (hm : m = 2 ^ k) (hk : k < 8) (f : Int) {h o : Nat} (hh : h < m) (ho : fgO s m f (h : Nat) = (o : Nat)) : fgC s m o f = fgC s m h f := by
  have h1 := fgO_inv (s := s) hm hk f hh
  rw [ho] at h1
  unfold fgC
  rw [h1, ho, Int.toNat_natCast, Int.toNat_natCast, Nat.min_comm]
theorem fgC_inj (hm : m = 2 ^ k) (hk : k < 8) {f g : Int} {h q o : Nat} (hh : h < m) (hq : q < m) (ho : fgO s m f (h : Nat) = (o : Nat)) (e : fgC s m q g = fgC s m h f) : g = f ∧ (q = h ∨ q = o) := by
  unfold fgC at e
  rw [Prod.mk.injEq] at e
  obtain ⟨e1, rfl⟩ := e
  refine ⟨rfl, ?_⟩
  obtain ⟨u, hu, hul⟩ := fgO_nat (s := s) hm hk g hq
  have i1 := fgO_inv (s := s) hm hk g hh
  have i2 := fgO_inv (s := s) hm hk g hq
  rw [ho] at i1
  rw [hu] at i2
  rw [ho, hu, Int.toNat_natCast, Int.toNat_natCast] at e1
  by_cases hqh : q = h
  · exact Or.inl hqh
  · right
    by_cases hqo : q = o
    · exact hqo
    · by_cases huo : u = o
      · exfalso; subst huo
        rw [i1] at i2; omega
      · have huh : u = h := by omega
        subst huh
        rw [ho] at i2; omega
end
theorem chP_at {cs : List Int} {h p : Nat} {x : Int} (hp : chP cs h x = some p) (hh : 2 * h + 1 < cs.length) : p < cs.length ∧ p / 2 = h ∧ ix cs p = x := by
  unfold chP at hp
  split at hp
  · rename_i e; cases hp; exact ⟨by omega, by omega, e⟩
  · split at hp
    · rename_i e; cases hp; exact ⟨by omega, by omega, e⟩
    · cases hp
theorem chP_no {cs : List Int} {h : Nat} {x : Int} (hp : chP cs h x = none) : ix cs (2 * h) ≠ x ∧ ix cs (2 * h + 1) ≠ x := by
  unfold chP at hp
  split at hp
  · cases hp
  · rename_i h1
    split at hp
    · cases hp
    · rename_i h2; exact ⟨h1, h2⟩
theorem chP_yes {cs : List Int} {p : Nat} : chP cs (p / 2) (ix cs p) ≠ none := fun e => by
  obtain ⟨h1, h2⟩ := chP_no e
  rcases Nat.mod_two_eq_zero_or_one p with h | h
  · exact h1 (by rw [show 2 * (p / 2) = p by omega])
  · exact h2 (by rw [show 2 * (p / 2) + 1 = p by omega])
theorem put_perm {s : Int} {m h p : Nat} {cs : List Int} {f : Int} (hp : chP cs h 0 = some p) (hh : 2 * h + 1 < cs.length) (hf : f ≠ 0) : List.Perm (fgL s m 0 (cs.set p f)) (fgC s m h f :: fgL s m 0 cs) := by
  obtain ⟨h1, h2, h3⟩ := chP_at hp hh
  have := fgL_set s m f cs 0 p h1
  rw [h3, Nat.zero_add] at this
  unfold fgG at this
  rw [if_pos rfl, if_neg hf, h2] at this
  exact this
theorem out_perm {s : Int} {m h p : Nat} {cs : List Int} {f : Int} (hp : chP cs h f = some p) (hh : 2 * h + 1 < cs.length) (hf : f ≠ 0) : List.Perm (fgC s m h f :: fgL s m 0 (cs.set p 0)) (fgL s m 0 cs) := by
  obtain ⟨h1, h2, h3⟩ := chP_at hp hh
  have := fgL_set s m 0 cs 0 p h1
  rw [h3, Nat.zero_add] at this
  unfold fgG at this
  rw [if_pos rfl, if_neg hf, h2] at this
  exact this
theorem full_two {s : Int} {m h : Nat} {cs : List Int} (hp : chP cs h 0 = none) (hh : 2 * h + 1 < cs.length) : 2 ≤ (fgL s m 0 cs).length := by
  obtain ⟨h1, h2⟩ := chP_no hp
  have q1 := (fgL_set s m 0 cs 0 (2 * h) (by omega)).length_eq
  have q2 := (fgL_set s m 0 (cs.set (2 * h) 0) 0 (2 * h + 1) (by rw [List.length_set]; omega)).length_eq
  have e : ix (cs.set (2 * h) 0) (2 * h + 1) = ix cs (2 * h + 1) := by
    rw [ix_eq _ _ (by rw [List.length_set]; exact hh), List.getElem_set_ne (by omega), ix_eq _ _ hh]
  rw [e] at q2
  unfold fgG at q1 q2
  rw [if_neg h1, if_pos rfl] at q1
  rw [if_neg h2, if_pos rfl] at q2
  simp only [List.length_append, List.length_cons, List.length_nil] at q1 q2
  omega
theorem kick_perm {s : Int} {m e : Nat} (hm : m = 2 ^ e) (he : e < 8) : ∀ (n k : Nat) (cs : List Int) (f : Int) (h : Nat) (out : List Int), cs.length = 2 * m → h < m → f ≠ 0 → (0 ≤ f ∧ f ≤ 255) → chP cs h 0 = none → (∀ v ∈ cs, 0 ≤ v ∧ v ≤ 255) → kick s m n k cs f h = some out →
    List.Perm (fgL s m 0 out) (fgC s m h f :: fgL s m 0 cs) ∧ ∀ v ∈ out, 0 ≤ v ∧ v ≤ 255
  | 0, _, _, _, _, _, _, _, _, _, _, _, hk => by cases hk
  | n + 1, k, cs, f, h, out, hl, hh, hf, hfb, hfull, hcs, hk => by
    obtain ⟨n1, n2⟩ := chP_no hfull
    obtain ⟨c, hc⟩ : ∃ c, 2 * h + k % 2 = c := ⟨_, rfl⟩
    have hcl : c < cs.length := by omega
    have hc2 : c / 2 = h := by omega
    have hx0 : ix cs c ≠ 0 := by
      rcases Nat.mod_two_eq_zero_or_one k with q | q
      · rw [show c = 2 * h by omega]; exact n1
      · rw [show c = 2 * h + 1 by omega]; exact n2
    have hxb := hcs _ (ix_mem cs c hcl)
    rw [kick, hc] at hk
    obtain ⟨x, hx⟩ : ∃ x, ix cs c = x := ⟨_, rfl⟩
    rw [hx] at hx0 hxb
    simp only [hx] at hk
    obtain ⟨o, ho, hol⟩ := fgO_nat (s := s) hm he x hh
    simp only [ho, Int.toNat_natCast] at hk
    have hset : List.Perm (fgC s m h x :: fgL s m 0 (cs.set c f)) (fgC s m h f :: fgL s m 0 cs) := by
      have := fgL_set s m f cs 0 c hcl
      rw [Nat.zero_add] at this
      unfold fgG at this
      rw [hx, if_neg hx0, if_neg hf, hc2] at this
      exact this
    have hoth := fgC_other (s := s) hm he x hh ho
    have hcs2 : ∀ v ∈ cs.set c f, 0 ≤ v ∧ v ≤ 255 := set_in hcs hfb
    cases hch : chP (cs.set c f) o 0 with
    | some p =>
      rw [hch] at hk
      cases hk
      refine ⟨?_, set_in hcs2 hxb⟩
      have := put_perm (s := s) (m := m) (f := x) hch (by rw [List.length_set]; omega) hx0
      rw [hoth] at this
      exact this.trans hset
    | none =>
      rw [hch] at hk
      obtain ⟨r1, r2⟩ := kick_perm hm he n (k + 1) (cs.set c f) x o out (by rw [List.length_set]; exact hl) hol hx0 hxb hch hcs2 hk
      rw [hoth] at r1
      exact ⟨r1.trans hset, r2⟩
theorem fgF_b (k s : Int) : 1 ≤ fgF k s ∧ fgF k s ≤ 255 := by
  have := belowI_b k s 255 (by omega) (by omega)
  unfold fgF; omega
theorem pfH_b (k s : Int) {m : Nat} (h1 : 1 ≤ m) (h2 : m ≤ 128) : pfH k s m < m := by
  have := belowI_b k (saltI s 1) m (by omega) (by omega)
  unfold pfH; omega
/-- What the law's cells keep: m houses, so the list is 2 m long. -/
structure fgI (s : Int) (m : Nat) (cs ks : List Int) : Prop where
  ok : fingB s cs = true
  len : cs.length = 2 * m
  perm : List.Perm (fgL s m 0 cs) (ks.map (fgK s m))
theorem fgI.pow {s : Int} {m : Nat} {cs ks : List Int} (h : fgI s m cs ks) : ∃ e, m = 2 ^ e ∧ e < 8 := by
  have h1 := h.ok
  unfold fingB at h1
  simp only [Bool.and_eq_true] at h1
  obtain ⟨q, hq, hl⟩ := pow2_half h1.1.2
  exact ⟨q, by have := h.len; omega, hq⟩
theorem fgI.mb {s : Int} {m : Nat} {cs ks : List Int} (h : fgI s m cs ks) : 1 ≤ m ∧ m ≤ 128 := by
  obtain ⟨e, rfl, he⟩ := h.pow
  exact ⟨Nat.one_le_two_pow, Nat.pow_le_pow_right (n := 2) (by omega) (by omega : e ≤ 7)⟩
theorem fgI.cells {s : Int} {m : Nat} {cs ks : List Int} (h : fgI s m cs ks) : ∀ x ∈ cs, 0 ≤ x ∧ x ≤ 255 := by
  have h1 := h.ok
  unfold fingB at h1
  simp only [Bool.and_eq_true] at h1
  exact all_in h1.2
theorem fingB_same {s : Int} {cs out : List Int} (h : fingB s cs = true) (hl : out.length = cs.length) (ho : ∀ x ∈ out, 0 ≤ x ∧ x ≤ 255) : fingB s out = true := by
  unfold fingB at h ⊢
  simp only [Bool.and_eq_true] at h ⊢
  rw [hl]
  refine ⟨h.1, List.all_eq_true.2 fun x hx => ?_⟩
  simpa [inB] using ho x hx
theorem fgI.put {s : Int} {m : Nat} {cs ks out : List Int} (h : fgI s m cs ks) {k : Int} (hp : pfA k s cs = some out) : fgI s m out (ks ++ [k]) := by
  obtain ⟨e, hm, he⟩ := h.pow
  obtain ⟨m1, m2⟩ := h.mb
  have hcs := h.cells
  have hl := h.len
  have hF := fgF_b k s
  have hH := pfH_b k s m1 m2
  unfold pfA at hp
  split at hp
  case isFalse => cases hp
  rw [show cs.length / 2 = m by omega] at hp
  have hlen := pfR_len hp
  have fin : ∀ o, List.Perm (fgL s m 0 o) (fgC s m (pfH k s m) (fgF k s) :: fgL s m 0 cs) → List.Perm (fgL s m 0 o) ((ks ++ [k]).map (fgK s m)) := fun o q => by
    rw [List.map_append]
    refine q.trans (List.Perm.trans ((h.perm).cons _) ?_)
    show List.Perm ([fgK s m k] ++ _) _
    exact List.perm_append_comm
  unfold pfR at hp
  obtain ⟨o, ho, hol⟩ := fgO_nat (s := s) hm he (fgF k s) hH
  rw [ho, Int.toNat_natCast] at hp
  cases h1 : chP cs (pfH k s m) 0 with
  | some p =>
    rw [h1] at hp; cases hp
    exact ⟨fingB_same h.ok hlen (set_in hcs (by omega)), by omega, fin _ (put_perm h1 (by omega) (by omega))⟩
  | none =>
    rw [h1] at hp
    simp only at hp
    cases h2 : chP cs o 0 with
    | some p =>
      rw [h2] at hp; cases hp
      have := put_perm (s := s) (m := m) (f := fgF k s) h2 (by omega) (by omega)
      rw [fgC_other hm he _ hH ho] at this
      exact ⟨fingB_same h.ok hlen (set_in hcs (by omega)), by omega, fin _ this⟩
    | none =>
      rw [h2] at hp
      simp only at hp
      obtain ⟨r1, r2⟩ := kick_perm hm he 64 0 cs (fgF k s) (pfH k s m) out hl hH (by omega) (by omega) h1 hcs hp
      exact ⟨fingB_same h.ok hlen r2, by omega, fin _ r1⟩
theorem fgI.must {s : Int} {m : Nat} {cs ks : List Int} (h : fgI s m cs ks) {k : Int} (hk : keyB k = true) (hn : pfA k s cs = none) : 2 ≤ ks.length := by
  obtain ⟨m1, m2⟩ := h.mb
  have hl := h.len
  have hH := pfH_b k s m1 m2
  unfold pfA at hn
  rw [h.ok, hk] at hn
  simp only [Bool.and_self, if_true] at hn
  rw [show cs.length / 2 = m by omega] at hn
  unfold pfR at hn
  cases h1 : chP cs (pfH k s m) 0 with
  | some p => rw [h1] at hn; cases hn
  | none =>
    have := full_two (s := s) (m := m) h1 (by omega)
    rw [h.perm.length_eq, List.length_map] at this
    exact this
/-! Taken out. -/
def ofR (k s : Int) (cs : List Int) (m : Nat) : Option (List Int) :=
  match chP cs (pfH k s m) (fgF k s) with
  | some p => some (cs.set p 0)
  | none => match chP cs (fgO s m (fgF k s) (pfH k s m)).toNat (fgF k s) with
    | some p => some (cs.set p 0)
    | none => none
def ofA (k s : Int) (cs : List Int) : Option (List Int) := if fingB s cs && keyB k then ofR k s cs (cs.length / 2) else none
theorem ofR_len {k s : Int} {cs out : List Int} {m : Nat} (h : ofR k s cs m = some out) : out.length = cs.length := by
  unfold ofR at h
  split at h
  · cases h; simp
  · split at h
    · cases h; simp
    · cases h
theorem fgI.out {s : Int} {m : Nat} {cs ks out : List Int} {k : Int} (h : fgI s m cs (k :: ks)) (hp : ofA k s cs = some out) : fgI s m out ks := by
  obtain ⟨e, hm, he⟩ := h.pow
  obtain ⟨m1, m2⟩ := h.mb
  have hcs := h.cells
  have hl := h.len
  have hF := fgF_b k s
  have hH := pfH_b k s m1 m2
  unfold ofA at hp
  split at hp
  case isFalse => cases hp
  rw [show cs.length / 2 = m by omega] at hp
  have hlen := ofR_len hp
  have fin : ∀ o, List.Perm (fgC s m (pfH k s m) (fgF k s) :: fgL s m 0 o) (fgL s m 0 cs) → List.Perm (fgL s m 0 o) (ks.map (fgK s m)) := fun o q => (q.trans h.perm).cons_inv
  unfold ofR at hp
  obtain ⟨o, ho, hol⟩ := fgO_nat (s := s) hm he (fgF k s) hH
  rw [ho, Int.toNat_natCast] at hp
  cases h1 : chP cs (pfH k s m) (fgF k s) with
  | some p =>
    rw [h1] at hp; cases hp
    exact ⟨fingB_same h.ok hlen (set_in hcs (by omega)), by omega, fin _ (out_perm h1 (by omega) (by omega))⟩
  | none =>
    rw [h1] at hp
    simp only at hp
    cases h2 : chP cs o (fgF k s) with
    | some p =>
      rw [h2] at hp; cases hp
      have := out_perm (s := s) (m := m) h2 (by omega) (by omega)
      rw [fgC_other hm he _ hH ho] at this
      exact ⟨fingB_same h.ok hlen (set_in hcs (by omega)), by omega, fin _ this⟩
    | none => rw [h2] at hp; cases hp
theorem fgI.has {s : Int} {m : Nat} {cs ks : List Int} {k : Int} (h : fgI s m cs ks) (hk : keyB k = true) (hm0 : k ∈ ks) : ∃ out, ofA k s cs = some out := by
  obtain ⟨e, hm, he⟩ := h.pow
  obtain ⟨m1, m2⟩ := h.mb
  have hl := h.len
  have hH := pfH_b k s m1 m2
  obtain ⟨p, hp, hx0, hx⟩ := fgL_mem cs 0 (h.perm.mem_iff.2 (List.mem_map_of_mem hm0))
  rw [Nat.zero_add] at hx
  obtain ⟨o, ho, hol⟩ := fgO_nat (s := s) hm he (fgF k s) hH
  obtain ⟨e1, e2⟩ := fgC_inj (s := s) hm he hH (show p / 2 < m by omega) ho hx.symm
  have hy := chP_yes (cs := cs) (p := p)
  rw [e1] at hy
  unfold ofA
  rw [h.ok, hk]
  simp only [Bool.and_self, if_true]
  rw [show cs.length / 2 = m by omega]
  unfold ofR
  rw [ho, Int.toNat_natCast]
  cases h1 : chP cs (pfH k s m) (fgF k s) with
  | some q => exact ⟨_, rfl⟩
  | none =>
    cases h2 : chP cs o (fgF k s) with
    | some q => exact ⟨_, rfl⟩
    | none =>
      exfalso
      rcases e2 with e2 | e2
      · rw [e2] at hy; exact hy h1
      · rw [e2] at hy; exact hy h2
theorem fgI.gone {s : Int} {m : Nat} {cs : List Int} {k : Int} (h : fgI s m cs []) : ofA k s cs = none := by
  obtain ⟨m1, m2⟩ := h.mb
  obtain ⟨e, hm, he⟩ := h.pow
  have hl := h.len
  have hF := fgF_b k s
  have hH := pfH_b k s m1 m2
  have hz := fgL_nil (List.Perm.eq_nil h.perm)
  obtain ⟨o, ho, hol⟩ := fgO_nat (s := s) hm he (fgF k s) hH
  have hno : ∀ q, q < m → chP cs q (fgF k s) = none := fun q hq => by
    unfold chP
    rw [if_neg (by rw [hz _ (ix_mem cs _ (by omega))]; omega), if_neg (by rw [hz _ (ix_mem cs _ (by omega))]; omega)]
  unfold ofA
  split
  · rw [show cs.length / 2 = m by omega]
    unfold ofR
    rw [hno _ hH, ho, Int.toNat_natCast]
    simp only [hno _ hol]
  · rfl
end Go.Proofs.Ythcbbnigpkkkiaa
