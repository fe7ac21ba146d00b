/- The abstract machine: drawn regions whose new objects have their places kept ahead: no order of them matters. -/
import Derived.Test.YtpbafacehmjdmaaZn
namespace Go.Proofs.Ytpbafacehmjdmaa
open Go.RowKit
set_option linter.unusedSimpArgs false
set_option linter.unusedVariables false
set_option linter.unusedSectionVars false
set_option maxRecDepth 100000

section
variable {P : Program} {T : Tab} {ops : List Oper} {md : Region.Mode}
def reloc (id : Nat) : LV → LV
  | .ptr _ _ off => .ptr id 1 off
  | .sl _ _ off n cap => .sl id 1 off n cap
  | _ => .junk
/-- A new object is put at a place that was kept for it. -/
def RK (id d : Nat) (H : Hp) (K : List LV → Hp → Prop) (tm' : List LV) (H' : Hp) : Prop :=
  ∃ ob : AO, H' = H ++ [ob] ∧ H[id]? = some ⟨0, false, ob.el, ob.sz, []⟩ ∧ ob.ver = 0 ∧ ob.ro = false ∧ (∀ c ∈ ob.cs, bnd H.length c) ∧ (∃ x, tm'[d]? = some x ∧ (x = .ptr H.length 0 0 ∨ ∃ n, x = .sl H.length 0 0 n none)) ∧
    K (tm'.set d (reloc id (tm'.getD d .junk))) (H.set id ⟨1, false, ob.el, ob.sz, ob.cs⟩)
theorem RK.mono {id d : Nat} {H : Hp} {K K' : List LV → Hp → Prop} (hk : ∀ t H, K t H → K' t H) {tm' : List LV} {H' : Hp} (h : RK id d H K tm' H') : RK id d H K' tm' H' := by
  obtain ⟨ob, a, b, c, e, f, g, k⟩ := h
  exact ⟨ob, a, b, c, e, f, g, hk _ _ k⟩
def newOp (o : Oper) (d : Nat) : Bool := match o.op, o.guard with
  | .alloc .., none | .box .., none | .buildSlice .., none | .makeSlice .., none => o.dst == some d
  | _, _ => false
/-- An operation of a region; those of 'res' put their new object at its place. -/
def AOpR (P : Program) (T : Tab) (ops : List Oper) (res : List (Nat × Nat)) (i : Nat) (o : Oper) (tm : List LV) (H : Hp) (K : List LV → Hp → Prop) : Prop :=
  match res.lookup i with
  | some id => ∃ d, newOp o d = true ∧ AOp P T ops o tm H (RK id d H K)
  | none => AOp P T ops o tm H K
theorem AOpR_mono {res : List (Nat × Nat)} {i : Nat} {o : Oper} {tm : List LV} {H : Hp} {K K' : List LV → Hp → Prop} (hk : ∀ t H, K t H → K' t H) (h : AOpR P T ops res i o tm H K) : AOpR P T ops res i o tm H K' := by
  unfold AOpR at *
  split at h
  · obtain ⟨d, h1, h2⟩ := h
    exact ⟨d, h1, AOp_mono (fun _ _ h => h.mono hk) h2⟩
  · exact AOp_mono hk h
theorem newOp_dst {o : Oper} {d : Nat} (h : newOp o d = true) : o.dst = some d ∧ o.guard = none ∧ acall o.op = none := by
  unfold newOp at h
  split at h
  all_goals first
    | (rename_i e1 e2; exact ⟨by simpa using h, e2, by rw [e1]; rfl⟩)
    | cases h
theorem AOpR_put2 {res : List (Nat × Nat)} {j : Nat} {oi oj : Oper} {x : LV} (hap : oi.apart ops.toArray oj = true) {K : List LV → Hp → Prop} {tm : List LV} {H : Hp} (h : AOpR P T ops res j oj (putA tm oi.dst x) H K) :
    AOpR P T ops res j oj tm H fun t H' => ∃ r, t = putA tm oj.dst r ∧ K (putA t oi.dst x) H' := by
  unfold AOpR at *
  split at h
  · rename_i id hid
    obtain ⟨d, h1, h2⟩ := h
    refine ⟨d, h1, AOp_mono (fun t H' h => ?_) (AOp_put2 hap h2)⟩
    obtain ⟨hd, _, _⟩ := newOp_dst h1
    obtain ⟨_, g2, _⟩ := Oper.apart_spec hap
    obtain ⟨r, rfl, ob, a, b, c, e, f, ⟨y, hy, hyy⟩, k⟩ := h
    rw [hd] at hy k ⊢
    have e0 : putA tm (some d) r = tm.set d r := rfl
    simp only [e0] at hy k ⊢
    have hpos : ∀ {y' : LV}, (tm.set d r)[d]? = some y' → (tm.set d r).getD d .junk = y' ∧ y' = r := fun {y'} h => by
      have hl : d < tm.length := by
        rcases Nat.lt_or_ge d tm.length with h' | h'
        · exact h'
        · rw [List.getElem?_eq_none (by simpa using h')] at h; cases h
      refine ⟨by rw [List.getD_eq_getElem?_getD, h]; rfl, ?_⟩
      rw [List.getElem?_set_self hl] at h
      exact (Option.some.inj h).symm
    cases hdi : oi.dst with
    | none =>
      have e1 : ∀ l, putA l none x = l := fun l => rfl
      simp only [hdi, e1] at hy k
      obtain ⟨q1, q2⟩ := hpos hy
      refine ⟨ob, a, b, c, e, f, ⟨y, hy, hyy⟩, reloc id y, ?_, ?_⟩
      · rw [q1, List.set_set]; rfl
      · simp only [e1]; exact k
    | some di =>
      have hne : di ≠ d := fun h => g2 di hdi (by rw [hd, h])
      have e1 : ∀ l, putA l (some di) x = l.set di x := fun l => rfl
      simp only [hdi, e1] at hy k
      rw [List.getElem?_set_ne hne] at hy
      obtain ⟨q1, q2⟩ := hpos hy
      have q3 : ((tm.set d r).set di x).getD d .junk = y := by
        rw [List.getD_eq_getElem?_getD, List.getElem?_set_ne hne, hy]; rfl
      rw [q3, List.set_comm _ _ hne] at k
      refine ⟨ob, a, b, c, e, f, ⟨y, hy, hyy⟩, reloc id y, ?_, ?_⟩
      · rw [q1, List.set_set]; rfl
      · simp only [e1]
        rw [q1]; exact k
  · exact AOp_put2 hap h

/-- Operations that only add new objects, but for those of Z. -/
def AAnyR (P : Program) (T : Tab) (md : Region.Mode) (ops : List Oper) (res : List (Nat × Nat)) (Z : List Nat) (Hs : Hp) : Nat → Array Bool → List LV → Hp → (List LV → Hp → Prop) → Prop
  | 0, listed, tm, H, K => Region.ready md ops.toArray listed = [] ∧ K tm H
  | f + 1, listed, tm, H, K => Region.ready md ops.toArray listed ≠ [] ∧ ∀ i ∈ Region.ready md ops.toArray listed, match ops[i]? with
    | some o => AOpR P T ops res i o tm H fun tm' H' => (Z.contains i = true ∨ ((∃ L, H = Hs ++ L) → ∃ L, H' = Hs ++ L)) ∧ AAnyR P T md ops res Z Hs f (listed.setIfInBounds i true) tm' H' K
    | none => False
def AAllR (P : Program) (T : Tab) (md : Region.Mode) (ops : List Oper) (res : List (Nat × Nat)) (Z : List Nat) (Hs : Hp) (f : Nat) (listed : Array Bool) (tm : List LV) (H : Hp) (K : List LV → Hp → Prop) : List Nat → Prop
  | [] => True
  | i :: l => (match ops[i]? with
    | some o => AOpR P T ops res i o tm H fun tm' H' => (Z.contains i = true ∨ ((∃ L, H = Hs ++ L) → ∃ L, H' = Hs ++ L)) ∧ AAnyR P T md ops res Z Hs f (listed.setIfInBounds i true) tm' H' K
    | none => False) ∧ AAllR P T md ops res Z Hs f listed tm H K l
theorem AAllR.mem {res : List (Nat × Nat)} {Z : List Nat} {f : Nat} {Hs : Hp} {listed : Array Bool} {tm : List LV} {H : Hp} {K : List LV → Hp → Prop} : ∀ {l : List Nat}, AAllR P T md ops res Z Hs f listed tm H K l → ∀ i ∈ l, match ops[i]? with
    | some o => AOpR P T ops res i o tm H fun tm' H' => (Z.contains i = true ∨ ((∃ L, H = Hs ++ L) → ∃ L, H' = Hs ++ L)) ∧ AAnyR P T md ops res Z Hs f (listed.setIfInBounds i true) tm' H' K
    | none => False
  | [], _, i, hi => by cases hi
  | j :: l, h, i, hi => by
    rcases List.mem_cons.1 hi with rfl | hi
    · exact h.1
    · exact h.2.mem i hi
theorem AAnyR_leaf {res : List (Nat × Nat)} {Z : List Nat} {Hs : Hp} {listed : Array Bool} {tm : List LV} {H : Hp} {K : List LV → Hp → Prop} (hr : Region.ready md ops.toArray listed = []) (h : K tm H) : AAnyR P T md ops res Z Hs 0 listed tm H K := ⟨hr, h⟩
theorem AAnyR_step {res : List (Nat × Nat)} {Z : List Nat} {f : Nat} {Hs : Hp} {listed : Array Bool} {tm : List LV} {H : Hp} {K : List LV → Hp → Prop} (i : Nat) (l : List Nat) (hr : Region.ready md ops.toArray listed = i :: l) (h : AAllR P T md ops res Z Hs f listed tm H K (i :: l)) : AAnyR P T md ops res Z Hs (f + 1) listed tm H K :=
  ⟨by rw [hr]; simp, fun j hj => by rw [hr] at hj; exact h.mem j hj⟩
theorem AAllR_cons {res : List (Nat × Nat)} {Z : List Nat} {f i : Nat} {Hs : Hp} {l : List Nat} {listed : Array Bool} {tm : List LV} {H : Hp} {K0 : List LV → Hp → Prop} {o : Oper} (hn : res.lookup i = none) (ho : ops[i]? = some o)
    (h : ∀ K : List LV → Hp → Prop, (∀ tm' H', (Z.contains i = true ∨ ((∃ L, H = Hs ++ L) → ∃ L, H' = Hs ++ L)) → AAnyR P T md ops res Z Hs f (listed.setIfInBounds i true) tm' H' K0 → K tm' H') → AOp P T ops o tm H K) (hl : AAllR P T md ops res Z Hs f listed tm H K0 l) : AAllR P T md ops res Z Hs f listed tm H K0 (i :: l) :=
  ⟨by rw [ho]; simp only [AOpR, hn]; exact h _ fun _ _ h1 h2 => ⟨h1, h2⟩, hl⟩
theorem AAllR_res {res : List (Nat × Nat)} {Z : List Nat} {f i : Nat} {Hs : Hp} {l : List Nat} {listed : Array Bool} {tm : List LV} {H : Hp} {K0 : List LV → Hp → Prop} {o : Oper} (id d : Nat) (hr : res.lookup i = some id) (ho : ops[i]? = some o) (hd : newOp o d = true)
    (h : ∀ K : List LV → Hp → Prop, (∀ tm' H', RK id d H (fun t H'' => (Z.contains i = true ∨ ((∃ L, H = Hs ++ L) → ∃ L, H'' = Hs ++ L)) ∧ AAnyR P T md ops res Z Hs f (listed.setIfInBounds i true) t H'' K0) tm' H' → K tm' H') → AOp P T ops o tm H K) (hl : AAllR P T md ops res Z Hs f listed tm H K0 l) : AAllR P T md ops res Z Hs f listed tm H K0 (i :: l) :=
  ⟨by rw [ho]; simp only [AOpR, hr]; exact ⟨d, hd, h _ fun _ _ h => h⟩, hl⟩
theorem AAllR_nil {res : List (Nat × Nat)} {Z : List Nat} {f : Nat} {Hs : Hp} {listed : Array Bool} {tm : List LV} {H : Hp} {K0 : List LV → Hp → Prop} : AAllR P T md ops res Z Hs f listed tm H K0 [] := trivial
theorem AAnyR_first {res : List (Nat × Nat)} {Z : List Nat} {i : Nat} {Hs : Hp} {oi : Oper} {x : LV} {K : List LV → Hp → Prop} (hi : ops[i]? = some oi) (hz : ∀ z, Z.contains z = true → Anc md ops z i) :
    ∀ (f : Nat) (listed : Array Bool) (tm : List LV) (H : Hp), DC md ops listed →
      (∀ j oj, ops[j]? = some oj → j ≠ i → listed.getD j true = false → (∀ e ∈ oj.after, Region.binds md e = true → e.on ≠ i) → oi.apart ops.toArray oj = true) →
      i ∈ Region.ready md ops.toArray listed → (∃ L, H = Hs ++ L) → YX T ops Hs oi x tm → res.lookup i = none →
      AAnyR P T md ops res Z Hs f (listed.setIfInBounds i true) (putA tm oi.dst x) H K → AAnyR P T md ops res Z Hs (f + 1) listed tm H K := by
  intro f
  induction f with
  | zero =>
    intro listed tm H _ _ hr hH hy hn hh
    obtain ⟨L0, rfl⟩ := hH
    refine ⟨fun h => (by rw [h] at hr; cases hr), fun j hj => ?_⟩
    by_cases hji : j = i
    · subst hji; rw [hi]; simp only [AOpR, hn]; exact hy.op ⟨Or.inr fun _ => ⟨L0, rfl⟩, hh⟩
    · have := ready_mono hj hji
      rw [hh.1] at this; cases this
  | succ f ih =>
    intro listed tm H hd hfree hr hH hy hn hh
    obtain ⟨L0, rfl⟩ := hH
    have hun := (mem_ready.1 hr).1
    refine ⟨fun h => (by rw [h] at hr; cases hr), fun j hj => ?_⟩
    by_cases hji : j = i
    · subst hji; rw [hi]; simp only [AOpR, hn]; exact hy.op ⟨Or.inr fun _ => ⟨L0, rfl⟩, hh⟩
    · have h1 := hh.2 j (ready_mono hj hji)
      obtain ⟨hjun, oj, hoj, hall⟩ := mem_ready.1 hj
      have hoj' : ops[j]? = some oj := by rw [List.getElem?_toArray] at hoj; exact hoj
      rw [hoj'] at h1 ⊢
      have hnot : ∀ e ∈ oj.after, Region.binds md e = true → e.on ≠ i := fun e he hb heq => by
        have h1 := hall e he hb
        rw [heq, getD_both hun] at h1
        cases h1
      have hap := hfree j oj hoj' hji hjun hnot
      obtain ⟨_, _, h3⟩ := Oper.apart_spec hap
      have h2 := AOpR_put2 hap h1
      have hfree' : ∀ k ok, ops[k]? = some ok → k ≠ i → (listed.setIfInBounds j true).getD k true = false →
          (∀ e ∈ ok.after, Region.binds md e = true → e.on ≠ i) → oi.apart ops.toArray ok = true := fun k ok hk hki hun hno => by
        refine hfree k ok hk hki ?_ hno
        by_cases hjk : j = k
        · subst hjk; exact hjun
        · rw [getD_set_ne true hjk] at hun; exact hun
      refine AOpR_mono (fun t H' h4 => ?_) h2
      obtain ⟨r, rfl, hext, hX⟩ := h4
      rcases hext with h0 | h0
      · have h5 := hd.anc (hz j h0) oj hoj' hall
        rw [getD_both hun] at h5
        cases h5
      · obtain ⟨L, rfl⟩ := h0 ⟨L0, rfl⟩
        refine ⟨Or.inr fun _ => ⟨L, rfl⟩, ih (listed.setIfInBounds j true) _ _ (hd.set hj) hfree' (ready_mono hr (Ne.symm hji)) ⟨L, rfl⟩ (hy.put h3) hn ?_⟩
        rw [Array.setIfInBounds_comm _ _ hji]
        exact hX
theorem AAnyR_quiet {res : List (Nat × Nat)} {Z : List Nat} {f : Nat} {Hs : Hp} {listed : Array Bool} {tm : List LV} {H : Hp} {K0 : List LV → Hp → Prop} (i : Nat) {o : Oper} (ho : ops[i]? = some o) (hp : quietB o.op = true) (hn : res.lookup i = none)
    (hr : (Region.ready md ops.toArray listed).contains i = true) (hf : Region.free md ops.toArray listed i = true) (hz : (Z.all fun z => ancB md ops ops.length z i) = true) (hdc : dcB md ops listed = true)
    (hH : ∃ L, H = Hs ++ L) (h : ∀ K : List LV → Hp → Prop, (∀ tm', AAnyR P T md ops res Z Hs f (listed.setIfInBounds i true) tm' H K0 → K tm' Hs) → AOp P T ops o tm Hs K) : AAnyR P T md ops res Z Hs (f + 1) listed tm H K0 := by
  obtain ⟨x, h1, h2⟩ := YX_of hp (h (fun tm' _ => AAnyR P T md ops res Z Hs f (listed.setIfInBounds i true) tm' H K0) fun _ h => h)
  exact AAnyR_first ho (fun z hzz => ancB_sound _ _ _ (List.all_eq_true.1 hz z (by simpa using hzz))) f listed tm H (dcB_sound hdc) (fun j oj hj => Region.free_spec (by rw [List.getElem?_toArray]; exact ho) hf j oj (by rw [List.getElem?_toArray]; exact hj)) (by simpa using hr) hH h1 hn h2
theorem Rep.placed {w0 w w' : World} {μ μ1 : Nat → Pl} {H : Hp} {id : Nat} {ob : AO} (hR : Rep w0 μ H w) (hid : H[id]? = some ⟨0, false, ob.el, ob.sz, []⟩) (hv : ob.ver = 0) (hro : ob.ro = false) (hb : ∀ c ∈ ob.cs, bnd H.length c)
    (hR1 : Rep w0 μ1 (H ++ [ob]) w') (hx : Ext μ H μ1 (H ++ [ob])) :
    Rep w0 (fun k => if k = id then μ1 H.length else μ1 k) (H.set id ⟨1, false, ob.el, ob.sz, ob.cs⟩) w' ∧ Ext μ H (fun k => if k = id then μ1 H.length else μ1 k) (H.set id ⟨1, false, ob.el, ob.sz, ob.cs⟩) ∧
      (∀ v, BR μ1 (H ++ [ob]) (.ptr H.length 0 0) v → BR (fun k => if k = id then μ1 H.length else μ1 k) (H.set id ⟨1, false, ob.el, ob.sz, ob.cs⟩) (.ptr id 1 0) v) ∧
      (∀ n v, BR μ1 (H ++ [ob]) (.sl H.length 0 0 n none) v → BR (fun k => if k = id then μ1 H.length else μ1 k) (H.set id ⟨1, false, ob.el, ob.sz, ob.cs⟩) (.sl id 1 0 n none) v) := by
  have hlt : id < H.length := by
    rcases Nat.lt_or_ge id H.length with h | h
    · exact h
    · simp [List.getElem?_eq_none h] at hid
  have hnew : (H ++ [ob])[H.length]? = some ob := by simp
  have hold : ∀ k, k < H.length → (H ++ [ob])[k]? = H[k]? := fun k hk => List.getElem?_append_left hk
  have hset : (H.set id ⟨1, false, ob.el, ob.sz, ob.cs⟩)[id]? = some ⟨1, false, ob.el, ob.sz, ob.cs⟩ := List.getElem?_set_self hlt
  have hne : ∀ k, k ≠ id → (H.set id ⟨1, false, ob.el, ob.sz, ob.cs⟩)[k]? = H[k]? := fun k hk => List.getElem?_set_ne (Ne.symm hk)
  have hext : Ext μ H (fun k => if k = id then μ1 H.length else μ1 k) (H.set id ⟨1, false, ob.el, ob.sz, ob.cs⟩) := by
    intro k q hq
    have hkl : k < H.length := by
      rcases Nat.lt_or_ge k H.length with h | h
      · exact h
      · simp [List.getElem?_eq_none h] at hq
    by_cases e : k = id
    · subst e
      rw [hid] at hq; cases hq
      exact ⟨_, hset, Nat.zero_le _, rfl, rfl, rfl, fun h => absurd h (by simp)⟩
    · obtain ⟨q', k1, k2, k3, k4, k5, k6⟩ := hx k q hq
      rw [hold k hkl, hq] at k1
      cases k1
      exact ⟨q, (hne k e).trans hq, Nat.le_refl _, rfl, rfl, rfl, fun _ => by simp only [if_neg e]; exact k6 rfl⟩
  have hbr : ∀ x v, bnd H.length x → BR μ1 (H ++ [ob]) x v → BR (fun k => if k = id then μ1 H.length else μ1 k) (H.set id ⟨1, false, ob.el, ob.sz, ob.cs⟩) x v := by
    intro x v hbx hxv
    cases x with
    | ptr k ver off =>
      obtain ⟨o, a, h1, h2, h3, h4⟩ := hxv
      have hkl : k < H.length := hbx
      rw [hold k hkl] at h1
      by_cases e : k = id
      · subst e
        rw [hid] at h1; cases h1
        exact ⟨_, a, hset, by simp only at h2 ⊢; omega, h3, fun h => by simp only at h2 h; omega⟩
      · exact ⟨o, a, (hne k e).trans h1, h2, h3, fun h => by simp only [if_neg e]; exact h4 h⟩
    | sl k ver off n cap =>
      obtain ⟨o, a, c, h1, h2, h3, h4⟩ := hxv
      have hkl : k < H.length := hbx
      rw [hold k hkl] at h1
      by_cases e : k = id
      · subst e
        rw [hid] at h1; cases h1
        exact ⟨_, a, c, hset, by simp only at h2 ⊢; omega, h3, fun h => by simp only at h2 h; omega⟩
      · exact ⟨o, a, c, (hne k e).trans h1, h2, h3, fun h => by simp only [if_neg e]; exact h4 h⟩
    | _ => exact hxv
  refine ⟨⟨hR1.bel, ?_, ?_, ?_, ?_⟩, hext, ?_, ?_⟩
  · intro k q hq j c hc
    by_cases e : k = id
    · subst e
      rw [hset] at hq; cases hq
      obtain ⟨v, g1, g2, g3⟩ := hR1.cell H.length ob hnew j c hc
      exact ⟨v, by simp only [if_true]; exact g1, g2, hbr _ _ (hb c (List.mem_of_getElem? hc)) g3⟩
    · rw [hne k e] at hq
      have hkl : k < H.length := by
        rcases Nat.lt_or_ge k H.length with h | h
        · exact h
        · simp [List.getElem?_eq_none h] at hq
      obtain ⟨v, g1, g2, g3⟩ := hR1.cell k q ((hold k hkl).trans hq) j c hc
      exact ⟨v, by simp only [if_neg e]; exact g1, g2, hbr _ _ (hR.closed k q hq c (List.mem_of_getElem? hc)) g3⟩
  · intro k q hq hqro
    by_cases e : k = id
    · subst e
      rw [hset] at hq; cases hq; cases hqro
    · rw [hne k e] at hq
      have hkl : k < H.length := by
        rcases Nat.lt_or_ge k H.length with h | h
        · exact h
        · simp [List.getElem?_eq_none h] at hq
      simpa [e] using hR1.ro k q ((hold k hkl).trans hq) hqro
  · intro k q hq hqro
    by_cases e : k = id
    · subst e
      rw [hset] at hq; cases hq
      simpa using hR1.rw H.length ob hnew hro
    · rw [hne k e] at hq
      have hkl : k < H.length := by
        rcases Nat.lt_or_ge k H.length with h | h
        · exact h
        · simp [List.getElem?_eq_none h] at hq
      simpa [e] using hR1.rw k q ((hold k hkl).trans hq) hqro
  · intro i j q s hq hs hqr hsr hzi hzj he
    have key : ∀ k q, (H.set id ⟨1, false, ob.el, ob.sz, ob.cs⟩)[k]? = some q → ∃ k' q', (H ++ [ob])[k']? = some q' ∧ q'.ro = q.ro ∧ (fun k => if k = id then μ1 H.length else μ1 k) k = μ1 k' ∧ (k = id → k' = H.length) ∧ (k ≠ id → k' = k ∧ k < H.length) := by
      intro k q hq
      by_cases e : k = id
      · subst e
        rw [hset] at hq; cases hq
        exact ⟨H.length, ob, hnew, hro, by simp, fun _ => rfl, fun h => absurd rfl h⟩
      · rw [hne k e] at hq
        have hkl : k < H.length := by
          rcases Nat.lt_or_ge k H.length with h | h
          · exact h
          · simp [List.getElem?_eq_none h] at hq
        exact ⟨k, q, (hold k hkl).trans hq, rfl, by simp [e], fun h => absurd h e, fun _ => ⟨rfl, hkl⟩⟩
    obtain ⟨i', q', a1, a2, a3, a4, a5⟩ := key i q hq
    obtain ⟨j', s', b1, b2, b3, b4, b5⟩ := key j s hs
    simp only at a3 b3
    rw [a3] at hzi he
    rw [b3] at hzj he
    have hij := hR1.dj i' j' q' s' a1 b1 (a2.trans hqr) (b2.trans hsr) hzi hzj he
    by_cases ei : i = id
    · by_cases ej : j = id
      · rw [ei, ej]
      · have := a4 ei; have := b5 ej; omega
    · by_cases ej : j = id
      · have := b4 ej; have := a5 ei; omega
      · have := a5 ei; have := b5 ej; omega
  · rintro v ⟨o, a, h1, h2, h3, h4⟩
    rw [hnew] at h1; cases h1
    exact ⟨_, a, hset, Nat.le_refl _, h3, fun _ => by simp only [if_true]; exact h4 hv.symm⟩
  · rintro n v ⟨o, a, c, h1, h2, h3, h4⟩
    rw [hnew] at h1; cases h1
    refine ⟨_, a, c, hset, Nat.le_refl _, h3, fun _ => ?_⟩
    obtain ⟨p1, p2, p3, p4⟩ := h4 hv.symm
    have e : (if id = id then μ1 H.length else μ1 id) = μ1 H.length := if_pos rfl
    simp only [e]
    exact ⟨p1, p2, p3, fun _ => ⟨fun _ => (p4 hro).1 rfl, (p4 hro).2⟩⟩
variable (hT : TabOk P T)
include hT
theorem AAnyR_sound {res : List (Nat × Nat)} {Z : List Nat} {Hs : Hp} {w0 : World} {Q' : Exit → Act → World → Prop} {K : List LV → Hp → Prop} {μ0 : Nat → Pl} {H0 : Hp} {d0 : List Deferred}
    (hK : ∀ tm H μ w a, K tm H → Ext μ0 H0 μ H → Rep w0 μ H w → All2 (TR μ H) tm a.tmps.toList → a.defers = d0 → Q' .normal a w) :
    ∀ (f : Nat) (listed : Array Bool) (tm : List LV) (H : Hp) (μ : Nat → Pl) (w : World) (a : Act), AAnyR P T md ops res Z Hs f listed tm H K → Ext μ0 H0 μ H → Rep w0 μ H w → All2 (TR μ H) tm a.tmps.toList → a.defers = d0 → wpAny P md ops.toArray Q' f listed a w
  | 0, listed, tm, H, μ, w, a, h, hx, hR, ha, hd => ⟨h.1, hK _ _ _ _ _ h.2 hx hR ha hd⟩
  | f + 1, listed, tm, H, μ, w, a, h, hx, hR, ha, hd => by
    refine ⟨fun h0 => absurd h0 h.1, fun i hi => ?_⟩
    have hi' := h.2 i hi
    unfold wpOp
    rw [List.getElem?_toArray]
    split at hi'
    · rename_i o ho
      rw [ho]
      simp only
      unfold AOpR at hi'
      split at hi'
      · rename_i id hid
        obtain ⟨d, hd1, hop⟩ := hi'
        obtain ⟨hdst, hg, hac⟩ := newOp_dst hd1
        have hw : awant ops tm o = some true := by unfold awant; rw [hg]
        rw [awant_sound ha hw]
        simp only [if_true]
        refine Or.inl ?_
        unfold AOp at hop
        rw [hw] at hop
        have hdo := hop.1 rfl
        unfold ADo at hdo
        rw [hac] at hdo
        simp only at hdo
        split at hdo
        case h_2 => exact hdo.elim
        rename_i r H' haop
        obtain ⟨ob, rfl, h2, h3, h4, h5, ⟨x, hx1, hx2⟩, _, hk⟩ := hdo
        obtain ⟨w', μ1, hv, k1, k2⟩ := aop_sound hT hR (fun x => TR_ev ha x) haop
        rw [hdst] at hx1 hk
        simp only [putA] at hx1 hk
        have hdl : d < tm.length := by
          rcases Nat.lt_or_ge d tm.length with h' | h'
          · exact h'
          · rw [List.getElem?_eq_none (by simpa using h')] at hx1; cases hx1
        have hxr : x = r := by
          rw [List.getElem?_set_self hdl] at hx1
          exact (Option.some.inj hx1).symm
        subst hxr
        obtain ⟨r1, r2, r3, r4⟩ := hR.placed h2 h3 h4 h5 k1 k2
        have hgd : (tm.set d x).getD d .junk = x := by rw [List.getD_eq_getElem?_getD, List.getElem?_set_self hdl]; rfl
        rw [hgd, List.set_set] at hk
        rcases hv with ⟨v, hrun, hval⟩ | ⟨hrun, hj⟩
        · have hnv : TR (fun k => if k = id then μ1 H.length else μ1 k) (H.set id ⟨1, false, ob.el, ob.sz, ob.cs⟩) (reloc id x) v := by
            rcases hx2 with rfl | ⟨n, rfl⟩
            · exact r3 v hval
            · exact r4 n v hval
          unfold Oper.wp
          rw [hrun]
          refine AAnyR_sound hK f _ _ _ _ w' _ hk (hx.trans r2) r1 ?_ ((put_defers _ _ _).trans hd)
          have := put_rel (ha.mono fun _ _ => TR.ext r2) o.dst hnv
          rw [hdst] at this ⊢
          exact this
        · subst hj
          rcases hx2 with h | ⟨n, h⟩ <;> cases h
      unfold AOp at hi'
      split at hi'
      · rename_i b hw
        rw [awant_sound ha hw]
        cases b
        · simp only [Bool.false_eq_true, if_false]
          exact AAnyR_sound hK f _ _ _ μ w _ (hi'.2 rfl).2 hx hR (put_rel (v := undef) ha o.dst (show TR μ H (.tup []) undef from ⟨#[], rfl, trivial⟩)) ((put_defers _ _ _).trans hd)
        · simp only [if_true]
          exact Or.inl (ADo_sound hT (hi'.1 rfl) hR ha fun tm' H' μ' w' a' hk hx' hR' ha' hd' => AAnyR_sound hK f _ tm' H' μ' w' a' hk.2 (hx.trans hx') hR' ha' (hd'.trans hd))
      · exact hi'.elim
    · exact hi'.elim
omit hT in
theorem Wk.reserve {He : Hp} {tm : List LV} : ∀ (vs : List (TypeId × Nat)) (H : Hp), Wk He tm H tm (H ++ vs.map fun p => ⟨0, false, p.1, p.2, []⟩)
  | [], H => by simp only [List.map_nil, List.append_nil]; exact Wk.refl
  | p :: vs, H => by
    have h1 : Wk He tm H tm (H ++ [⟨0, false, p.1, p.2, []⟩]) := fun w0 μe μ w us hx hR hv =>
      let ⟨r1, r2⟩ := hR.virt p.1 p.2
      ⟨_, hx.trans r2, r1, hv.mono fun _ _ => TR.ext r2⟩
    have h2 := Wk.reserve (He := He) (tm := tm) vs (H ++ [⟨0, false, p.1, p.2, []⟩])
    rw [List.append_assoc] at h2
    exact h1.trans h2
/-- A drawn region: operations that only look or make new objects (some at places that are kept ahead), and behind all of them those of Z. -/
theorem AW_treeV {He H : Hp} {id : Nat} {tm tm1 : List LV} {H1 : Hp} {Q : Exit → List LV → Hp → Prop} (n : Nat) (res : List (Nat × Nat)) (vs : List (TypeId × Nat)) (Z : List Nat) (hm : P.follows .mixedOrders = true) (hn : ops.length = n)
    (h : AAnyR P T .any ops res Z H n (Array.replicate n false) tm (H ++ vs.map fun p => ⟨0, false, p.1, p.2, []⟩) fun tm' H' => Wk He tm' H' tm1 H1) (hq : Q .normal tm1 H1) : AW P He (.region id ops.toArray true) tm H Q := by
  subst hn
  refine AW.weak (Wk.reserve vs H) ?_
  intro w0 μe μ w a h1 h2 h3 h4
  refine wp_region_any hm ?_
  have := AAnyR_sound hT (μ0 := μ) (H0 := H ++ vs.map fun p => ⟨0, false, p.1, p.2, []⟩) (d0 := a.defers) (Q' := Post P w0 μe He Q) (fun tm' H' μ' w' a' hk hx hR ha hd => by
    obtain ⟨μ2, k1, k2, k3⟩ := hk w0 μe μ' w' a'.tmps.toList (h1.trans hx) hR ha
    exact ⟨μ2, tm1, H1, hd.trans h4, k1, k2, k3, hq⟩) ops.length _ tm _ μ _ a h (Ext.refl _ _) (h2.drewN 1) h3 rfl
  have e : ops.toArray.size = ops.length := by simp
  rw [e]
  exact this
end
theorem RK_intro {id d : Nat} {H H' : Hp} {K : List LV → Hp → Prop} {tm' : List LV} (ob : AO) (h1 : H ++ [ob] = H') (h2 : H[id]? = some ⟨0, false, ob.el, ob.sz, []⟩) (h3 : ob.ver = 0) (h4 : ob.ro = false) (h5 : ∀ c ∈ ob.cs, bnd H.length c)
    (h6 : ∃ x k, tm'[d]? = some x ∧ H.length = k ∧ (x = .ptr k 0 0 ∨ ∃ n, x = .sl k 0 0 n none)) (h7 : K (tm'.set d (reloc id (tm'.getD d .junk))) (H.set id ⟨1, false, ob.el, ob.sz, ob.cs⟩)) : RK id d H K tm' H' :=
  ⟨ob, h1.symm, h2, h3, h4, h5, (let ⟨x, k, a, b, c⟩ := h6; ⟨x, a, by rw [b]; exact c⟩), h7⟩
end Go.Proofs.Ytpbafacehmjdmaa
