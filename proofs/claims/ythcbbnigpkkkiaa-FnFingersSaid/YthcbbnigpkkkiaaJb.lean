/- Peeled cells, plainly: each key's three cells make its mark. -/
import Derived.Test.YthcbbnigpkkkiaaQe
import Derived.Test.YthcbbnigpkkkiaaDd
namespace Go.Proofs.Ythcbbnigpkkkiaa
open Go.RowKit
set_option linter.unusedSimpArgs false
set_option linter.unusedVariables false
set_option maxRecDepth 100000

structure pgJ (n s : Int) (ks left o t : List Int) : Prop where
  len : t.length = o.length
  all : ∀ x ∈ ks, x ∈ o ∨ x ∈ left
  one : ∀ e, e < o.length → (thrL (ix o e) n s 3).contains (ix t e) = true
  not : ∀ e, e < o.length → ∀ x ∈ left, (thrL x n s 3).contains (ix t e) = false
  low : ∀ e j, e < j → j < o.length → (thrL (ix o j) n s 3).contains (ix t e) = false
theorem ixA_l {α : Type} [Inhabited α] {a b : List α} {k : Nat} (h : k < a.length) : ix (a ++ b) k = ix a k := by
  rw [ix_eq _ _ (by rw [List.length_append]; omega), ix_eq _ _ h, List.getElem_append_left h]
theorem ixA_n {α : Type} [Inhabited α] {a : List α} {x : α} {n : Nat} (h : a.length = n) : ix (a ++ [x]) n = x := by
  subst h
  rw [ix_eq _ _ (by simp)]; simp
theorem pgJ.start (n s : Int) (ks : List Int) : pgJ n s ks ks [] [] :=
  ⟨rfl, fun x hx => Or.inr hx, fun e he => absurd he (Nat.not_lt_zero _), fun e he => absurd he (Nat.not_lt_zero _), fun e j h hj => absurd hj (Nat.not_lt_zero _)⟩
theorem pgJ.step {n s : Int} {ks left o t : List Int} (h : pgJ n s ks left o t) {c i : Nat} (hi : i < left.length) (ho : ∀ j, j < left.length → (thrL (ix left j) n s 3).contains (c : Int) = decide (j = i)) :
    pgJ n s ks (left.filter fun x => !(x == ix left i)) (o ++ [ix left i]) (t ++ [(c : Int)]) := by
  have hl := h.len
  have hmem := ix_mem left i hi
  have hlen : (o ++ [ix left i]).length = o.length + 1 := by simp
  have tn : ix (t ++ [(c : Int)]) o.length = (c : Int) := ixA_n hl
  have on : ix (o ++ [ix left i]) o.length = ix left i := ixA_n rfl
  have to : ∀ e, e < o.length → ix (t ++ [(c : Int)]) e = ix t e := fun e he => ixA_l (by omega)
  have oo : ∀ e, e < o.length → ix (o ++ [ix left i]) e = ix o e := fun e he => ixA_l he
  refine ⟨by simp [hl], fun x hx => ?_, fun e he => ?_, fun e he x hx => ?_, fun e j hej hj => ?_⟩
  · rcases h.all x hx with h1 | h1
    · exact Or.inl (List.mem_append_left _ h1)
    · by_cases e : x = ix left i
      · exact Or.inl (List.mem_append_right _ (by rw [e]; exact List.mem_singleton.2 rfl))
      · exact Or.inr (List.mem_filter.2 ⟨h1, by simpa using e⟩)
  · rw [hlen] at he
    rcases Nat.lt_or_ge e o.length with h1 | h1
    · rw [to e h1, oo e h1]; exact h.one e h1
    · obtain rfl : e = o.length := by omega
      rw [tn, on, ho i hi]; simp
  · rw [hlen] at he
    obtain ⟨hx1, hx2⟩ := List.mem_filter.1 hx
    rcases Nat.lt_or_ge e o.length with h1 | h1
    · rw [to e h1]; exact h.not e h1 x hx1
    · obtain rfl : e = o.length := by omega
      obtain ⟨j, hj, rfl⟩ := mem_ixQ hx1
      rw [tn, ho j hj, decide_eq_false_iff_not]
      rintro rfl
      simp at hx2
  · rw [hlen] at hj
    rcases Nat.lt_or_ge j o.length with h1 | h1
    · rw [to e (by omega), oo j h1]; exact h.low e j hej h1
    · obtain rfl : j = o.length := by omega
      rw [to e hej, on]; exact h.not e hej _ hmem
theorem pgJ.fin {n s : Int} {L : Nat} {ks o' t' : List Int} : ∀ (m r : Nat) (left o t : List Int), r + m = L → pgI n s L r (some (o', t')) left o t → pgJ n s ks left o t → pgJ n s ks [] o' t'
  | 0, r, left, o, t, hm, h, hJ => by
    obtain rfl : r = L := by omega
    have := h.eq
    rw [Nat.sub_self] at this
    cases this
    have hl := h.len
    obtain rfl : left = [] := List.eq_nil_of_length_eq_zero (by omega)
    exact hJ
  | m + 1, r, left, o, t, hm, h, hJ => by
    by_cases hneg : oneI n s left < 0
    · have := h.none (by omega) hneg; cases this
    · obtain ⟨c, i, hc, hcM, hil, hhl, honly, hflt, -⟩ := oneI_key (n := n) (s := s) h.nd (by omega)
      exact pgJ.fin m (r + 1) _ _ _ (by omega) (h.step (by omega) hc hcM hil hhl hflt) (hJ.step hil honly)
/-! The marks. -/
def xr3 (n s : Int) (out : List Int) (k : Int) : Int := ibits .xor .i64 (ibits .xor .i64 (ix out (pkI k n s 0).toNat) (ix out (pkI k n s 1).toNat)) (ix out (pkI k n s 2).toNat)
theorem xor255 {a b : Nat} (ha : a < 256) (hb : b < 256) : ibits .xor .i64 (a : Int) (b : Int) = ((a ^^^ b : Nat) : Int) ∧ a ^^^ b < 256 := by
  have h : a ^^^ b < 2 ^ 8 := Nat.xor_lt_two_pow (by omega) (by omega)
  exact ⟨ibits_xor a b (by omega) (by omega), by omega⟩
theorem xq0 (M b c : Nat) : ((M ^^^ b) ^^^ c) ^^^ b ^^^ c = M := by
  apply Nat.eq_of_testBit_eq; intro i; simp only [Nat.testBit_xor]
  cases M.testBit i <;> cases b.testBit i <;> cases c.testBit i <;> rfl
theorem xq1 (M a c : Nat) : (a ^^^ ((M ^^^ a) ^^^ c)) ^^^ c = M := by
  apply Nat.eq_of_testBit_eq; intro i; simp only [Nat.testBit_xor]
  cases M.testBit i <;> cases a.testBit i <;> cases c.testBit i <;> rfl
theorem xq2 (M a b : Nat) : (a ^^^ b) ^^^ ((M ^^^ a) ^^^ b) = M := by
  apply Nat.eq_of_testBit_eq; intro i; simp only [Nat.testBit_xor]
  cases M.testBit i <;> cases a.testBit i <;> cases b.testBit i <;> rfl
/-- One key's cell filled. -/
theorem fill_one {n s k tk : Int} (hn : 1 ≤ n ∧ n ≤ 128) {out : List Int} (hl : out.length = (3 * n).toNat) (hb : ∀ x ∈ out, 0 ≤ x ∧ x ≤ 255) (ht : (thrL k n s 3).contains tk = true) :
    (0 ≤ xorF (thrL k n s 3) tk (mkI k s) out 3 ∧ xorF (thrL k n s 3) tk (mkI k s) out 3 ≤ 255) ∧ xr3 n s (out.set tk.toNat (xorF (thrL k n s 3) tk (mkI k s) out 3)) k = mkI k s := by
  obtain ⟨hM1, hM2⟩ := mkI_b k s
  obtain ⟨M, hM⟩ : ∃ M : Nat, mkI k s = (M : Int) := ⟨(mkI k s).toNat, by omega⟩
  rw [hM] at hM1 hM2 ⊢
  have b0 := pkI_b (k := k) (s := s) hn (j := 0) (by omega)
  have b1 := pkI_b (k := k) (s := s) hn (j := 1) (by omega)
  have b2 := pkI_b (k := k) (s := s) hn (j := 2) (by omega)
  have l01 := pkI_lt (k := k) (s := s) hn (i := 0) (j := 1) (by omega) (by omega)
  have l12 := pkI_lt (k := k) (s := s) hn (i := 1) (j := 2) (by omega) (by omega)
  have t0 := thr_ix k n s (j := 0) (by omega)
  have t1 := thr_ix k n s (j := 1) (by omega)
  have t2 := thr_ix k n s (j := 2) (by omega)
  have hcase : tk = pkI k n s 0 ∨ tk = pkI k n s 1 ∨ tk = pkI k n s 2 := by
    have := List.contains_iff_mem.1 ht
    unfold thrL at this
    obtain ⟨j, hj, e⟩ := List.mem_map.1 this
    have hj3 := List.mem_range.1 hj
    have : j = 0 ∨ j = 1 ∨ j = 2 := by omega
    rcases this with rfl | rfl | rfl
    · exact Or.inl e.symm
    · exact Or.inr (Or.inl e.symm)
    · exact Or.inr (Or.inr e.symm)
  unfold xr3
  obtain ⟨p, hp⟩ : ∃ p : Nat, pkI k n s 0 = (p : Int) := ⟨(pkI k n s 0).toNat, by omega⟩
  obtain ⟨q, hq⟩ : ∃ q : Nat, pkI k n s 1 = (q : Int) := ⟨(pkI k n s 1).toNat, by omega⟩
  obtain ⟨r, hr⟩ : ∃ r : Nat, pkI k n s 2 = (r : Int) := ⟨(pkI k n s 2).toNat, by omega⟩
  rw [hp] at b0 l01 t0 hcase ⊢
  rw [hq] at b1 l01 l12 t1 hcase ⊢
  rw [hr] at b2 l12 t2 hcase ⊢
  have hA := hb _ (ix_mem out p (by omega))
  have hB := hb _ (ix_mem out q (by omega))
  have hC := hb _ (ix_mem out r (by omega))
  obtain ⟨a, ha⟩ : ∃ a : Nat, ix out p = (a : Int) := ⟨(ix out p).toNat, by omega⟩
  obtain ⟨b, hbb⟩ : ∃ b : Nat, ix out q = (b : Int) := ⟨(ix out q).toNat, by omega⟩
  obtain ⟨c, hc⟩ : ∃ c : Nat, ix out r = (c : Int) := ⟨(ix out r).toNat, by omega⟩
  rw [ha] at hA
  rw [hbb] at hB
  rw [hc] at hC
  simp only [Int.toNat_natCast]
  have S : ∀ (x : Int) (u v : Nat), v < out.length → ix (out.set u x) v = if u = v then x else ix out v := fun x u v hv => ix_setI hv
  rcases hcase with rfl | rfl | rfl
  · have e1 : xorF (thrL k n s 3) (p : Nat) (M : Int) out 3 = (((M ^^^ b) ^^^ c : Nat) : Int) := by
      rw [xorF_next (by rw [t2]; omega), xorF_next (by rw [t1]; omega), xorF_same t0, t1, t2]
      simp only [Int.toNat_natCast, hbb, hc]
      show ibits .xor .i64 (ibits .xor .i64 (M : Int) _) _ = _
      rw [(xor255 (by omega) (by omega)).1, (xor255 (xor255 (by omega) (by omega)).2 (by omega)).1]
    have hX : (M ^^^ b) ^^^ c < 256 := (xor255 (xor255 (a := M) (b := b) (by omega) (by omega)).2 (b := c) (by omega)).2
    rw [e1]
    refine ⟨by omega, ?_⟩
    rw [Int.toNat_natCast, S _ _ _ (by omega), S _ _ _ (by omega), S _ _ _ (by omega), if_pos rfl, if_neg (by omega), if_neg (by omega), hbb, hc, (xor255 hX (by omega)).1, (xor255 (xor255 hX (by omega)).2 (by omega)).1, xq0]
  · have e1 : xorF (thrL k n s 3) (q : Nat) (M : Int) out 3 = (((M ^^^ a) ^^^ c : Nat) : Int) := by
      rw [xorF_next (by rw [t2]; omega), xorF_same t1, xorF_next (by rw [t0]; omega), t0, t2]
      simp only [Int.toNat_natCast, ha, hc]
      show ibits .xor .i64 (ibits .xor .i64 (M : Int) _) _ = _
      rw [(xor255 (by omega) (by omega)).1, (xor255 (xor255 (by omega) (by omega)).2 (by omega)).1]
    have hX : (M ^^^ a) ^^^ c < 256 := (xor255 (xor255 (a := M) (b := a) (by omega) (by omega)).2 (b := c) (by omega)).2
    rw [e1]
    refine ⟨by omega, ?_⟩
    rw [Int.toNat_natCast, S _ _ _ (by omega), S _ _ _ (by omega), S _ _ _ (by omega), if_neg (by omega), if_pos rfl, if_neg (by omega), ha, hc, (xor255 (by omega) hX).1, (xor255 (xor255 (by omega) hX).2 (by omega)).1, xq1]
  · have e1 : xorF (thrL k n s 3) (r : Nat) (M : Int) out 3 = (((M ^^^ a) ^^^ b : Nat) : Int) := by
      rw [xorF_same t2, xorF_next (by rw [t1]; omega), xorF_next (by rw [t0]; omega), t0, t1]
      simp only [Int.toNat_natCast, ha, hbb]
      show ibits .xor .i64 (ibits .xor .i64 (M : Int) _) _ = _
      rw [(xor255 (by omega) (by omega)).1, (xor255 (xor255 (by omega) (by omega)).2 (by omega)).1]
    have hX : (M ^^^ a) ^^^ b < 256 := (xor255 (xor255 (a := M) (b := a) (by omega) (by omega)).2 (b := b) (by omega)).2
    rw [e1]
    refine ⟨by omega, ?_⟩
    rw [Int.toNat_natCast, S _ _ _ (by omega), S _ _ _ (by omega), S _ _ _ (by omega), if_neg (by omega), if_neg (by omega), if_pos rfl, ha, hbb, (xor255 (by omega) (by omega)).1, (xor255 (xor255 (by omega) (by omega)).2 hX).1, xq2]
theorem xr3_set {n s k tk x : Int} (hn : 1 ≤ n ∧ n ≤ 128) {out : List Int} (hl : out.length = (3 * n).toNat) (h0 : 0 ≤ tk) (ht : (thrL k n s 3).contains tk = false) : xr3 n s (out.set tk.toNat x) k = xr3 n s out k := by
  have hne : ∀ j, j < 3 → ix (out.set tk.toNat x) (pkI k n s j).toNat = ix out (pkI k n s j).toNat := fun j hj => by
    have b0 := pkI_b (k := k) (s := s) hn hj
    rw [ix_setI (by omega), if_neg]
    intro e
    have e2 : pkI k n s j = tk := by omega
    have : tk ∈ thrL k n s 3 := by unfold thrL; exact List.mem_map.2 ⟨j, List.mem_range.2 hj, e2⟩
    rw [← List.contains_iff_mem, ht] at this
    cases this
  unfold xr3
  rw [hne 0 (by omega), hne 1 (by omega), hne 2 (by omega)]
theorem outS_ok {n s : Int} (hn : 1 ≤ n ∧ n ≤ 128) {ks o t : List Int} (h : pgJ n s ks [] o t) (htb : ∀ x ∈ t, 0 ≤ x) : ∀ q, q ≤ o.length → (∀ x ∈ outS n s o t q, 0 ≤ x ∧ x ≤ 255) ∧ ∀ j, o.length - q ≤ j → j < o.length → xr3 n s (outS n s o t q) (ix o j) = mkI (ix o j) s
  | 0, _ => ⟨fun x hx => by rw [(List.mem_replicate.1 hx).2]; omega, fun j h1 h2 => by omega⟩
  | q + 1, hq => by
    obtain ⟨r1, r2⟩ := outS_ok hn h htb q (by omega)
    obtain ⟨e, he⟩ : ∃ e, o.length - 1 - q = e := ⟨_, rfl⟩
    have hel : e < o.length := by omega
    have hl := outS_len n s o t q
    obtain ⟨f1, f2⟩ := fill_one hn hl r1 (h.one e hel)
    have hst : outS n s o t (q + 1) = (outS n s o t q).set (ix t e).toNat (xorF (thrL (ix o e) n s 3) (ix t e) (mkI (ix o e) s) (outS n s o t q) 3) := by
      show (outS n s o t q).set _ _ = _
      rw [he]
    rw [hst]
    refine ⟨fun x hx => ?_, fun j h1 h2 => ?_⟩
    · rcases List.mem_or_eq_of_mem_set hx with h1 | h1
      · exact r1 x h1
      · rw [h1]; exact f1
    · by_cases hje : j = e
      · rw [hje]; exact f2
      · rw [xr3_set hn hl (htb _ (ix_mem t e (by have := h.len; omega))) (h.low e j (by omega) h2)]
        exact r2 j (by omega) h2
/-- What peeled cells are. -/
theorem pcL_ok {ks : List Int} {n s : Int} (h : pcOk ks n s = true) : (pcL ks n s).length = (3 * n).toNat ∧ (∀ x ∈ pcL ks n s, 0 ≤ x ∧ x ≤ 255) ∧ ∀ k ∈ ks, xr3 n s (pcL ks n s) k = mkI k s := by
  unfold pcOk at h
  cases hR : pcR ks n s with
  | none => rw [hR] at h; cases h
  | some p =>
    obtain ⟨o, t⟩ := p
    have e : pcL ks n s = outS n s o t o.length := by unfold pcL; rw [hR]
    unfold pcR at hR
    split at hR
    case isFalse => cases hR
    rename_i hv
    unfold pcV at hv
    simp only [Bool.and_eq_true] at hv
    obtain ⟨⟨⟨e1, e2⟩, e3⟩, e4⟩ := hv
    have e3' := e3
    unfold inB at e3'
    simp only [Bool.and_eq_true, decide_eq_true_eq] at e3'
    have hin : ∀ x ∈ ks, 0 ≤ x ∧ x ≤ 4294967295 := fun x hx => by
      unfold keysB at e1
      simp only [Bool.and_eq_true] at e1
      exact (keyB_iff _).1 (List.all_eq_true.1 e1.2 _ hx)
    have hI := pgI_start (n := n) (s := s) (difB_nodup e2) hin rfl hR
    obtain ⟨hlo, hlt, hko, htb⟩ := hI.fin ks.length 0 ks [] [] (by omega)
    have hJ := pgJ.fin ks.length 0 ks [] [] (by omega) hI (pgJ.start n s ks)
    obtain ⟨r1, r2⟩ := outS_ok e3' hJ (fun x hx => (htb x hx).1) o.length (Nat.le_refl _)
    rw [e]
    refine ⟨outS_len .., r1, fun k hk => ?_⟩
    rcases hJ.all k hk with h1 | h1
    · obtain ⟨j, hj, rfl⟩ := mem_ixQ h1
      exact r2 j (by omega) hj
    · cases h1
end Go.Proofs.Ythcbbnigpkkkiaa
