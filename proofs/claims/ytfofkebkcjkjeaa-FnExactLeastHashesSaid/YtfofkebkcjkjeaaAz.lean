/- The abstract machine: new objects in another order. -/
import Derived.Test.YtfofkebkcjkjeaaAu
namespace Go.Proofs.Ytfofkebkcjkjeaa
open Go.RowKit
set_option linter.unusedSimpArgs false
set_option linter.unusedVariables false
set_option linter.unusedSectionVars false
set_option maxRecDepth 100000

def rnB (σ : Nat → Nat) : LV → LV
  | .ptr id v o => .ptr (σ id) v o
  | .sl id v o n c => .sl (σ id) v o n c
  | x => x
def rnL (σ : Nat → Nat) : LV → LV
  | .agg cs => .agg (cs.map (rnB σ))
  | .fn f cs => .fn f (cs.map (rnB σ))
  | .ptr id v o => .ptr (σ id) v o
  | .sl id v o n c => .sl (σ id) v o n c
  | x => x
def rnT (σ : Nat → Nat) : LV → LV
  | .tup cs => .tup (cs.map (rnL σ))
  | .agg cs => .agg (cs.map (rnB σ))
  | .fn f cs => .fn f (cs.map (rnB σ))
  | .ptr id v o => .ptr (σ id) v o
  | .sl id v o n c => .sl (σ id) v o n c
  | x => x
theorem rnB_junk (σ : Nat → Nat)  : rnB σ .junk = .junk := rfl
theorem rnB_bool (σ : Nat → Nat) (b : Bool) : rnB σ (.bool b) = (.bool b) := rfl
theorem rnB_int (σ : Nat → Nat) (k : IntKind) (n : Int) : rnB σ (.int k n) = (.int k n) := rfl
theorem rnB_flt (σ : Nat → Nat) (k : FloatKind) (o : Option Nat) : rnB σ (.flt k o) = (.flt k o) := rfl
theorem rnB_nils (σ : Nat → Nat)  : rnB σ .nils = .nils := rfl
theorem rnB_emp (σ : Nat → Nat)  : rnB σ .emp = .emp := rfl
theorem rnB_ptr (σ : Nat → Nat) (i v o : Nat) : rnB σ (.ptr i v o) = .ptr (σ i) v o := rfl
theorem rnB_sl (σ : Nat → Nat) (i v o n : Nat) (c : Option Nat) : rnB σ (.sl i v o n c) = .sl (σ i) v o n c := rfl
theorem rnL_junk (σ : Nat → Nat)  : rnL σ .junk = .junk := rfl
theorem rnL_bool (σ : Nat → Nat) (b : Bool) : rnL σ (.bool b) = (.bool b) := rfl
theorem rnL_int (σ : Nat → Nat) (k : IntKind) (n : Int) : rnL σ (.int k n) = (.int k n) := rfl
theorem rnL_flt (σ : Nat → Nat) (k : FloatKind) (o : Option Nat) : rnL σ (.flt k o) = (.flt k o) := rfl
theorem rnL_nils (σ : Nat → Nat)  : rnL σ .nils = .nils := rfl
theorem rnL_emp (σ : Nat → Nat)  : rnL σ .emp = .emp := rfl
theorem rnL_ptr (σ : Nat → Nat) (i v o : Nat) : rnL σ (.ptr i v o) = .ptr (σ i) v o := rfl
theorem rnL_sl (σ : Nat → Nat) (i v o n : Nat) (c : Option Nat) : rnL σ (.sl i v o n c) = .sl (σ i) v o n c := rfl
theorem rnL_agg (σ : Nat → Nat) (cs : List LV) : rnL σ (.agg cs) = .agg (cs.map (rnB σ)) := rfl
theorem rnL_fn (σ : Nat → Nat) (g : FuncId) (cs : List LV) : rnL σ (.fn g cs) = .fn g (cs.map (rnB σ)) := rfl
theorem rnT_junk (σ : Nat → Nat)  : rnT σ .junk = .junk := rfl
theorem rnT_bool (σ : Nat → Nat) (b : Bool) : rnT σ (.bool b) = (.bool b) := rfl
theorem rnT_int (σ : Nat → Nat) (k : IntKind) (n : Int) : rnT σ (.int k n) = (.int k n) := rfl
theorem rnT_flt (σ : Nat → Nat) (k : FloatKind) (o : Option Nat) : rnT σ (.flt k o) = (.flt k o) := rfl
theorem rnT_nils (σ : Nat → Nat)  : rnT σ .nils = .nils := rfl
theorem rnT_emp (σ : Nat → Nat)  : rnT σ .emp = .emp := rfl
theorem rnT_ptr (σ : Nat → Nat) (i v o : Nat) : rnT σ (.ptr i v o) = .ptr (σ i) v o := rfl
theorem rnT_sl (σ : Nat → Nat) (i v o n : Nat) (c : Option Nat) : rnT σ (.sl i v o n c) = .sl (σ i) v o n c := rfl
theorem rnT_agg (σ : Nat → Nat) (cs : List LV) : rnT σ (.agg cs) = .agg (cs.map (rnB σ)) := rfl
theorem rnT_fn (σ : Nat → Nat) (g : FuncId) (cs : List LV) : rnT σ (.fn g cs) = .fn g (cs.map (rnB σ)) := rfl
theorem rnT_tup (σ : Nat → Nat) (cs : List LV) : rnT σ (.tup cs) = .tup (cs.map (rnL σ)) := rfl
def rnO (σ : Nat → Nat) (o : AO) : AO := ⟨o.ver, o.ro, o.el, o.sz, o.cs.map (rnB σ)⟩
def sw (n : Nat) (s : Nat → Nat) (i : Nat) : Nat := if i < n then i else n + s (i - n)
theorem sw_lt {n i : Nat} {s : Nat → Nat} (h : i < n) : sw n s i = i := if_pos h
theorem sw_0 (n : Nat) (s : Nat → Nat) : sw n s n = n + s 0 := by unfold sw; rw [if_neg (Nat.lt_irrefl n), Nat.sub_self]
theorem sw_k (n k : Nat) (s : Nat → Nat) : sw n s (n + k) = n + s k := by unfold sw; rw [if_neg (by omega), Nat.add_sub_cancel_left]
theorem rnB_bnd {n : Nat} {s : Nat → Nat} {x : LV} (h : bnd n x) : rnB (sw n s) x = x := by
  cases x <;> first | rfl | (simp only [rnB, sw_lt h])
theorem rnT_bnd {n : Nat} {s : Nat → Nat} {x : LV} (h : bnd n x) (hc : x.isCell = true) : rnT (sw n s) x = x := by
  cases x <;> first | rfl | (simp only [rnT, sw_lt h]) | cases hc
theorem RdL.bnd {H : Hp} {x : LV} {cs : List LV} (h : RdL H x cs) : Go.Proofs.Ytfofkebkcjkjeaa.bnd H.length x := by
  obtain ⟨h1, h2, h3⟩ := h
  cases x <;> try trivial
  all_goals try (cases h1; done)
  case sl id ver off n cap =>
    simp only [cellsOf, hgets] at h2
    split at h2
    · rename_i o ho
      show id < H.length
      rcases Nat.lt_or_ge id H.length with h | h
      · exact h
      · simp [List.getElem?_eq_none h] at ho
    · cases h2

section
variable {σ τ : Nat → Nat} {μ : Nat → Pl} {H H1 : Hp}
theorem BR.perm (hτ : ∀ i, i < H.length → τ (σ i) = i) (h1 : ∀ i o, H[i]? = some o → H1[σ i]? = some (rnO σ o)) {x : LV} {v : Value} (h : BR μ H x v) : BR (fun j => μ (τ j)) H1 (rnB σ x) v := by
  have hlt : ∀ {i : Nat} {o : AO}, H[i]? = some o → i < H.length := fun {i o} ho => by
    rcases Nat.lt_or_ge i H.length with h | h
    · exact h
    · simp [List.getElem?_eq_none h] at ho
  cases x <;> try exact h
  case ptr id ver off =>
    obtain ⟨o, a, g1, g2, g3, g4⟩ := h
    refine ⟨rnO σ o, a, h1 _ _ g1, g2, g3, fun e => ?_⟩
    simp only [hτ id (hlt g1)]; exact g4 e
  case sl id ver off n cap =>
    obtain ⟨o, a, c, g1, g2, g3, g4⟩ := h
    refine ⟨rnO σ o, a, c, h1 _ _ g1, g2, g3, fun e => ?_⟩
    simp only [hτ id (hlt g1)]; exact g4 e
theorem LR.perm (hτ : ∀ i, i < H.length → τ (σ i) = i) (h1 : ∀ i o, H[i]? = some o → H1[σ i]? = some (rnO σ o)) {x : LV} {v : Value} (h : LR μ H x v) : LR (fun j => μ (τ j)) H1 (rnL σ x) v := by
  cases x
  case agg cs =>
    obtain ⟨vs, e, k⟩ := h
    exact ⟨vs, e, All2.map_left _ (k.mono fun _ _ h => BR.perm hτ h1 h)⟩
  case fn f cs =>
    obtain ⟨vs, e, k⟩ := h
    exact ⟨vs, e, All2.map_left _ (k.mono fun _ _ h => BR.perm hτ h1 h)⟩
  case junk => exact LR.of_BR (BR.perm (μ := μ) (x := .junk) hτ h1 h)
  case bool b => exact LR.of_BR (BR.perm (μ := μ) (x := .bool b) hτ h1 h)
  case int k n => exact LR.of_BR (BR.perm (μ := μ) (x := .int k n) hτ h1 h)
  case flt k o => exact LR.of_BR (BR.perm (μ := μ) (x := .flt k o) hτ h1 h)
  case ptr i v o => exact LR.of_BR (BR.perm (μ := μ) (x := .ptr i v o) hτ h1 h)
  case nils => exact LR.of_BR (BR.perm (μ := μ) (x := .nils) hτ h1 h)
  case emp => exact LR.of_BR (BR.perm (μ := μ) (x := .emp) hτ h1 h)
  case sl i v o n c => exact LR.of_BR (BR.perm (μ := μ) (x := .sl i v o n c) hτ h1 h)
  case tup cs => exact LR.of_BR (BR.perm (μ := μ) (x := .tup cs) hτ h1 h)
theorem TR.perm (hτ : ∀ i, i < H.length → τ (σ i) = i) (h1 : ∀ i o, H[i]? = some o → H1[σ i]? = some (rnO σ o)) {x : LV} {v : Value} (h : TR μ H x v) : TR (fun j => μ (τ j)) H1 (rnT σ x) v := by
  cases x
  case tup cs =>
    obtain ⟨vs, e, k⟩ := h
    exact ⟨vs, e, All2.map_left _ (k.mono fun _ _ h => LR.perm hτ h1 h)⟩
  case junk => exact TR.of_LR (LR.perm (μ := μ) (x := .junk) hτ h1 h)
  case bool b => exact TR.of_LR (LR.perm (μ := μ) (x := .bool b) hτ h1 h)
  case int k n => exact TR.of_LR (LR.perm (μ := μ) (x := .int k n) hτ h1 h)
  case flt k o => exact TR.of_LR (LR.perm (μ := μ) (x := .flt k o) hτ h1 h)
  case ptr i v o => exact TR.of_LR (LR.perm (μ := μ) (x := .ptr i v o) hτ h1 h)
  case nils => exact TR.of_LR (LR.perm (μ := μ) (x := .nils) hτ h1 h)
  case emp => exact TR.of_LR (LR.perm (μ := μ) (x := .emp) hτ h1 h)
  case sl i v o n c => exact TR.of_LR (LR.perm (μ := μ) (x := .sl i v o n c) hτ h1 h)
  case fn f cs => exact TR.of_LR (LR.perm (μ := μ) (x := .fn f cs) hτ h1 h)
  case agg cs => exact TR.of_LR (LR.perm (μ := μ) (x := .agg cs) hτ h1 h)
theorem Wk.perm {He : Hp} {tm : List LV} (hτ : ∀ i, i < H.length → τ (σ i) = i) (hfix : ∀ i, i < He.length → σ i = i) (h1 : ∀ i o, H[i]? = some o → H1[σ i]? = some (rnO σ o))
    (h2 : ∀ j q, H1[j]? = some q → ∃ i o, j = σ i ∧ H[i]? = some o ∧ q = rnO σ o) : Wk He tm H (tm.map (rnT σ)) H1 := by
  intro w0 μe μ w vs hx hR hv
  have hlt : ∀ {i : Nat} {o : AO}, H[i]? = some o → i < H.length := fun {i o} ho => by
    rcases Nat.lt_or_ge i H.length with h | h
    · exact h
    · simp [List.getElem?_eq_none h] at ho
  refine ⟨fun j => μ (τ j), ?_, ⟨hR.bel, ?_, ?_, ?_, ?_⟩, All2.map_left _ (hv.mono fun _ _ h => TR.perm hτ h1 h)⟩
  · intro i o ho
    obtain ⟨o', k1, k2, k3, k4, k5, k6⟩ := hx i o ho
    have hi : σ i = i := hfix i (by
      rcases Nat.lt_or_ge i He.length with h | h
      · exact h
      · simp [List.getElem?_eq_none h] at ho)
    have g := h1 i o' k1
    rw [hi] at g
    refine ⟨rnO σ o', g, k2, k3, k4, k5, fun e => ?_⟩
    have ht := hτ i (hlt k1)
    rw [hi] at ht
    simp only [ht]; exact k6 e
  · intro j q hq k c hc
    obtain ⟨i, o, rfl, ho, rfl⟩ := h2 j q hq
    simp only [rnO, List.getElem?_map, Option.map_eq_some_iff] at hc
    obtain ⟨c0, hc0, rfl⟩ := hc
    obtain ⟨v, g1, g2, g3⟩ := hR.cell i o ho k c0 hc0
    simp only [hτ i (hlt ho)]
    exact ⟨v, g1, g2, BR.perm hτ h1 g3⟩
  · intro j q hq hro
    obtain ⟨i, o, rfl, ho, rfl⟩ := h2 j q hq
    simp only [hτ i (hlt ho)]
    rcases hR.ro i o ho hro with h | h
    · exact Or.inl (by simp [rnO, h])
    · exact Or.inr h
  · intro j q hq hro
    obtain ⟨i, o, rfl, ho, rfl⟩ := h2 j q hq
    simp only [hτ i (hlt ho)]
    have := hR.rw i o ho hro
    simpa [rnO] using this
  · intro j j' q s hq hs hqr hsr hz hz' he
    obtain ⟨i, o, rfl, ho, rfl⟩ := h2 j q hq
    obtain ⟨i', o', rfl, ho', rfl⟩ := h2 j' s hs
    simp only [hτ i (hlt ho), hτ i' (hlt ho')] at hz hz' he
    rw [hR.dj i i' o o' ho ho' hqr hsr hz hz' he]
end
/-- The new objects K behind He laid in the order s as K1. -/
theorem Wk.permK {He K K1 : Hp} {tm tm1 : List LV} (s t : Nat → Nat) (hcl : Closed He) (hs : ∀ k, k < K.length → t (s k) = k ∧ K1[s k]? = (K[k]?).map (rnO (sw He.length s)))
    (ht : ∀ k, k < K1.length → s (t k) = k ∧ t k < K.length) (htm : tm.map (rnT (sw He.length s)) = tm1) : Wk He tm (He ++ K) tm1 (He ++ K1) := by
  subst htm
  have hfo : ∀ i o, He[i]? = some o → rnO (sw He.length s) o = o := fun i o ho => by
    have : o.cs.map (rnB (sw He.length s)) = o.cs := by
      have := List.map_congr_left (f := rnB (sw He.length s)) (g := id) (l := o.cs) fun c hc => rnB_bnd (hcl i o ho c hc)
      rw [this, List.map_id]
    unfold rnO; rw [this]
  have hlt : ∀ {i : Nat} {o : AO}, He[i]? = some o → i < He.length := fun {i o} ho => by
    rcases Nat.lt_or_ge i He.length with h | h
    · exact h
    · simp [List.getElem?_eq_none h] at ho
  refine Wk.perm (τ := sw He.length t) ?_ (fun i hi => sw_lt hi) ?_ ?_
  · intro i hi
    rcases Nat.lt_or_ge i He.length with h | h
    · rw [sw_lt h, sw_lt h]
    · obtain ⟨k, rfl⟩ : ∃ k, i = He.length + k := ⟨i - He.length, by omega⟩
      rw [sw_k, sw_k, (hs k (by simp at hi; omega)).1]
  · intro i o ho
    rcases Nat.lt_or_ge i He.length with h | h
    · rw [List.getElem?_append_left h] at ho
      rw [sw_lt h, List.getElem?_append_left h, hfo i o ho]; exact ho
    · obtain ⟨k, rfl⟩ : ∃ k, i = He.length + k := ⟨i - He.length, by omega⟩
      rw [List.getElem?_append_right (by omega), Nat.add_sub_cancel_left] at ho
      have hk : k < K.length := by
        rcases Nat.lt_or_ge k K.length with h | h
        · exact h
        · simp [List.getElem?_eq_none h] at ho
      rw [sw_k, List.getElem?_append_right (by omega), Nat.add_sub_cancel_left, (hs k hk).2, ho]; rfl
  · intro j q hq
    rcases Nat.lt_or_ge j He.length with h | h
    · rw [List.getElem?_append_left h] at hq
      exact ⟨j, q, (sw_lt h).symm, by rw [List.getElem?_append_left h]; exact hq, (hfo j q hq).symm⟩
    · obtain ⟨k, rfl⟩ : ∃ k, j = He.length + k := ⟨j - He.length, by omega⟩
      rw [List.getElem?_append_right (by omega), Nat.add_sub_cancel_left] at hq
      have hk : k < K1.length := by
        rcases Nat.lt_or_ge k K1.length with h | h
        · exact h
        · simp [List.getElem?_eq_none h] at hq
      obtain ⟨e1, e2⟩ := ht k hk
      have e3 := (hs (t k) e2).2
      rw [e1, hq] at e3
      obtain ⟨o, ho, rfl⟩ := Option.map_eq_some_iff.1 e3.symm
      exact ⟨He.length + t k, o, by rw [sw_k, e1], by rw [List.getElem?_append_right (by omega), Nat.add_sub_cancel_left]; exact ho, rfl⟩

/-- Operations in any order, all of which come to the same end, but for the order of new objects. -/
theorem AW_treeW {P : Program} {T : Tab} {ops : List Oper} (hT : TabOk P T) {He H : Hp} {id : Nat} {tm tm1 : List LV} {H1 : Hp} {Q : Exit → List LV → Hp → Prop} (n : Nat) (hm : P.follows .mixedOrders = true) (hn : ops.length = n)
    (h : AAny P T .any ops n (Array.replicate n false) tm H fun tm' H' => Wk He tm' H' tm1 H1) (hq : Q .normal tm1 H1) : AW P He (.region id ops.toArray true) tm H Q := by
  subst hn
  intro w0 μe μ w a h1 h2 h3 h4
  refine wp_region_any hm ?_
  have := AAny_sound hT (μ0 := μ) (H0 := H) (d0 := a.defers) (Q' := Post P w0 μe He Q) (fun tm' H' μ' w' a' hk hx hR ha hd => by
    obtain ⟨μ2, k1, k2, k3⟩ := hk w0 μe μ' w' a'.tmps.toList (h1.trans hx) hR ha
    exact ⟨μ2, tm1, H1, hd.trans h4, k1, k2, k3, hq⟩) ops.length _ tm H μ _ a h (Ext.refl _ _) (h2.drewN 1) h3 rfl
  have e : ops.toArray.size = ops.length := by simp
  rw [e]
  exact this
theorem AAny_leafW {P : Program} {T : Tab} {ops : List Oper} {md : Region.Mode} {listed : Array Bool} {tm tm1 : List LV} {H H1 He : Hp} (hr : Region.ready md ops.toArray listed = []) (h : Wk He tm H tm1 H1) :
    AAny P T md ops 0 listed tm H fun tm' H' => Wk He tm' H' tm1 H1 := ⟨hr, h⟩
end Go.Proofs.Ytfofkebkcjkjeaa
