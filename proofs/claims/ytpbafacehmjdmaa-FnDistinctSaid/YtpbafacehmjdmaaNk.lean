/- The abstract machine: drawn regions; empty literals of slices are told as nil. -/
import Derived.Test.YtpbafacehmjdmaaZn
namespace Go.Proofs.Ytpbafacehmjdmaa
open Go.RowKit
set_option linter.unusedSimpArgs false
set_option linter.unusedVariables false
set_option linter.unusedSectionVars false
set_option maxRecDepth 100000

section
variable {P : Program} {T : Tab} {ops : List Oper} {md : Region.Mode}
def bsOk (T : Tab) (o : Oper) : Bool := match o.op, o.guard with
  | .buildSlice t 0 parts, none => parts.isEmpty && match T t with
    | some { td := .slice e, .. } => (T e).isSome
    | _ => false
  | _, _ => false
/-- An operation; an empty literal of a slice may be told as nil. -/
def AOpN (P : Program) (T : Tab) (ops : List Oper) (o : Oper) (tm : List LV) (H : Hp) (K : List LV → Hp → Prop) : Prop :=
  (bsOk T o = true ∧ K (putA tm o.dst .nils) H) ∨ AOp P T ops o tm H K
theorem AOpN_mono {o : Oper} {tm : List LV} {H : Hp} {K K' : List LV → Hp → Prop} (hk : ∀ t H, K t H → K' t H) (h : AOpN P T ops o tm H K) : AOpN P T ops o tm H K' :=
  h.imp (fun h => ⟨h.1, hk _ _ h.2⟩) (AOp_mono hk)
theorem AOpN_put2 {oi oj : Oper} {x : LV} (hap : oi.apart ops.toArray oj = true) {K : List LV → Hp → Prop} {tm : List LV} {H : Hp} (h : AOpN P T ops oj (putA tm oi.dst x) H K) :
    AOpN P T ops oj tm H fun t H' => ∃ r, t = putA tm oj.dst r ∧ K (putA t oi.dst x) H' := by
  rcases h with ⟨h1, h2⟩ | h
  · obtain ⟨_, g2, _⟩ := Oper.apart_spec hap
    exact Or.inl ⟨h1, .nils, rfl, by rw [← putA_comm tm x .nils g2]; exact h2⟩
  · exact Or.inr (AOp_put2 hap h)
def YXN (T : Tab) (ops : List Oper) (Hs : Hp) (o : Oper) (x : LV) (tm : List LV) : Prop := YX T ops Hs o x tm ∨ (bsOk T o = true ∧ x = .nils)
theorem YXN.op {Hs : Hp} {o : Oper} {x : LV} {tm : List LV} {L : Hp} {K : List LV → Hp → Prop} (h : YXN T ops Hs o x tm) (hk : K (putA tm o.dst x) (Hs ++ L)) : AOpN P T ops o tm (Hs ++ L) K := by
  rcases h with h | ⟨h, rfl⟩
  · exact Or.inr (h.op hk)
  · exact Or.inl ⟨h, hk⟩
theorem YXN.put {Hs : Hp} {oi oj : Oper} {x u : LV} {tm : List LV} (hy : YXN T ops Hs oi x tm) (h3 : ∀ d, oj.dst = some d → d ∉ oi.looksAt ops.toArray) : YXN T ops Hs oi x (putA tm oj.dst u) :=
  hy.imp (fun h => h.put h3) id

/-- Operations that only add new objects, but for those of Z. -/
def AAnyN (P : Program) (T : Tab) (md : Region.Mode) (ops : List Oper) (Z : List Nat) (Hs : Hp) : Nat → Array Bool → List LV → Hp → (List LV → Hp → Prop) → Prop
  | 0, listed, tm, H, K => Region.ready md ops.toArray listed = [] ∧ K tm H
  | f + 1, listed, tm, H, K => Region.ready md ops.toArray listed ≠ [] ∧ ∀ i ∈ Region.ready md ops.toArray listed, match ops[i]? with
    | some o => AOpN P T ops o tm H fun tm' H' => (Z.contains i = true ∨ ∃ L, H' = Hs ++ L) ∧ AAnyN P T md ops Z Hs f (listed.setIfInBounds i true) tm' H' K
    | none => False
def AAllN (P : Program) (T : Tab) (md : Region.Mode) (ops : List Oper) (Z : List Nat) (Hs : Hp) (f : Nat) (listed : Array Bool) (tm : List LV) (H : Hp) (K : List LV → Hp → Prop) : List Nat → Prop
  | [] => True
  | i :: l => (match ops[i]? with
    | some o => AOpN P T ops o tm H fun tm' H' => (Z.contains i = true ∨ ∃ L, H' = Hs ++ L) ∧ AAnyN P T md ops Z Hs f (listed.setIfInBounds i true) tm' H' K
    | none => False) ∧ AAllN P T md ops Z Hs f listed tm H K l
theorem AAllN.mem {Z : List Nat} {f : Nat} {Hs : Hp} {listed : Array Bool} {tm : List LV} {H : Hp} {K : List LV → Hp → Prop} : ∀ {l : List Nat}, AAllN P T md ops Z Hs f listed tm H K l → ∀ i ∈ l, match ops[i]? with
    | some o => AOpN P T ops o tm H fun tm' H' => (Z.contains i = true ∨ ∃ L, H' = Hs ++ L) ∧ AAnyN P T md ops Z Hs f (listed.setIfInBounds i true) tm' H' K
    | none => False
  | [], _, i, hi => by cases hi
  | j :: l, h, i, hi => by
    rcases List.mem_cons.1 hi with rfl | hi
    · exact h.1
    · exact h.2.mem i hi
theorem AAnyN_leaf {Z : List Nat} {Hs : Hp} {listed : Array Bool} {tm : List LV} {H : Hp} {K : List LV → Hp → Prop} (hr : Region.ready md ops.toArray listed = []) (h : K tm H) : AAnyN P T md ops Z Hs 0 listed tm H K := ⟨hr, h⟩
theorem AAnyN_step {Z : List Nat} {f : Nat} {Hs : Hp} {listed : Array Bool} {tm : List LV} {H : Hp} {K : List LV → Hp → Prop} (i : Nat) (l : List Nat) (hr : Region.ready md ops.toArray listed = i :: l) (h : AAllN P T md ops Z Hs f listed tm H K (i :: l)) : AAnyN P T md ops Z Hs (f + 1) listed tm H K :=
  ⟨by rw [hr]; simp, fun j hj => by rw [hr] at hj; exact h.mem j hj⟩
theorem AAllN_cons {Z : List Nat} {f i : Nat} {Hs : Hp} {l : List Nat} {listed : Array Bool} {tm : List LV} {H : Hp} {K0 : List LV → Hp → Prop} {o : Oper} (ho : ops[i]? = some o)
    (h : ∀ K : List LV → Hp → Prop, (∀ tm' H', (Z.contains i = true ∨ ∃ L, H' = Hs ++ L) → AAnyN P T md ops Z Hs f (listed.setIfInBounds i true) tm' H' K0 → K tm' H') → AOp P T ops o tm H K) (hl : AAllN P T md ops Z Hs f listed tm H K0 l) : AAllN P T md ops Z Hs f listed tm H K0 (i :: l) :=
  ⟨by rw [ho]; exact Or.inr (h _ fun _ _ h1 h2 => ⟨h1, h2⟩), hl⟩
theorem AAllN_nil {Z : List Nat} {f : Nat} {Hs : Hp} {listed : Array Bool} {tm : List LV} {H : Hp} {K0 : List LV → Hp → Prop} : AAllN P T md ops Z Hs f listed tm H K0 [] := trivial
theorem AAnyN_first {Z : List Nat} {i : Nat} {Hs : Hp} {oi : Oper} {x : LV} {K : List LV → Hp → Prop} (hi : ops[i]? = some oi) (hz : ∀ z, Z.contains z = true → Anc md ops z i) :
    ∀ (f : Nat) (listed : Array Bool) (tm : List LV) (H : Hp), DC md ops listed →
      (∀ j oj, ops[j]? = some oj → j ≠ i → listed.getD j true = false → (∀ e ∈ oj.after, Region.binds md e = true → e.on ≠ i) → oi.apart ops.toArray oj = true) →
      i ∈ Region.ready md ops.toArray listed → (∃ L, H = Hs ++ L) → YXN T ops Hs oi x tm →
      AAnyN P T md ops Z Hs f (listed.setIfInBounds i true) (putA tm oi.dst x) H K → AAnyN P T md ops Z Hs (f + 1) listed tm H K := by
  intro f
  induction f with
  | zero =>
    intro listed tm H _ _ hr hH hy hh
    obtain ⟨L0, rfl⟩ := hH
    refine ⟨fun h => (by rw [h] at hr; cases hr), fun j hj => ?_⟩
    by_cases hji : j = i
    · subst hji; rw [hi]; exact hy.op ⟨Or.inr ⟨L0, rfl⟩, hh⟩
    · have := ready_mono hj hji
      rw [hh.1] at this; cases this
  | succ f ih =>
    intro listed tm H hd hfree hr hH hy hh
    obtain ⟨L0, rfl⟩ := hH
    have hun := (mem_ready.1 hr).1
    refine ⟨fun h => (by rw [h] at hr; cases hr), fun j hj => ?_⟩
    by_cases hji : j = i
    · subst hji; rw [hi]; exact hy.op ⟨Or.inr ⟨L0, rfl⟩, hh⟩
    · have h1 := hh.2 j (ready_mono hj hji)
      obtain ⟨hjun, oj, hoj, hall⟩ := mem_ready.1 hj
      have hoj' : ops[j]? = some oj := by rw [List.getElem?_toArray] at hoj; exact hoj
      rw [hoj'] at h1 ⊢
      have hnot : ∀ e ∈ oj.after, Region.binds md e = true → e.on ≠ i := fun e he hb heq => by
        have h1 := hall e he hb
        rw [heq, getD_both hun] at h1
        cases h1
      have hap := hfree j oj hoj' hji hjun hnot
      obtain ⟨_, _, h3⟩ := Oper.apart_spec hap
      have h2 := AOpN_put2 hap h1
      have hfree' : ∀ k ok, ops[k]? = some ok → k ≠ i → (listed.setIfInBounds j true).getD k true = false →
          (∀ e ∈ ok.after, Region.binds md e = true → e.on ≠ i) → oi.apart ops.toArray ok = true := fun k ok hk hki hun hno => by
        refine hfree k ok hk hki ?_ hno
        by_cases hjk : j = k
        · subst hjk; exact hjun
        · rw [getD_set_ne true hjk] at hun; exact hun
      refine AOpN_mono (fun t H' h4 => ?_) h2
      obtain ⟨r, rfl, hext, hX⟩ := h4
      rcases hext with h0 | ⟨L, rfl⟩
      · have h5 := hd.anc (hz j h0) oj hoj' hall
        rw [getD_both hun] at h5
        cases h5
      · refine ⟨Or.inr ⟨L, rfl⟩, ih (listed.setIfInBounds j true) _ _ (hd.set hj) hfree' (ready_mono hr (Ne.symm hji)) ⟨L, rfl⟩ (hy.put h3) ?_⟩
        rw [Array.setIfInBounds_comm _ _ hji]
        exact hX
theorem AAnyN_quiet {Z : List Nat} {f : Nat} {Hs : Hp} {listed : Array Bool} {tm : List LV} {H : Hp} {K0 : List LV → Hp → Prop} (i : Nat) {o : Oper} (ho : ops[i]? = some o) (hp : quietB o.op = true)
    (hr : (Region.ready md ops.toArray listed).contains i = true) (hf : Region.free md ops.toArray listed i = true) (hz : (Z.all fun z => ancB md ops ops.length z i) = true) (hdc : dcB md ops listed = true)
    (hH : ∃ L, H = Hs ++ L) (h : ∀ K : List LV → Hp → Prop, (∀ tm', AAnyN P T md ops Z Hs f (listed.setIfInBounds i true) tm' H K0 → K tm' Hs) → AOp P T ops o tm Hs K) : AAnyN P T md ops Z Hs (f + 1) listed tm H K0 := by
  obtain ⟨x, h1, h2⟩ := YX_of hp (h (fun tm' _ => AAnyN P T md ops Z Hs f (listed.setIfInBounds i true) tm' H K0) fun _ h => h)
  exact AAnyN_first ho (fun z hzz => ancB_sound _ _ _ (List.all_eq_true.1 hz z (by simpa using hzz))) f listed tm H (dcB_sound hdc) (fun j oj hj => Region.free_spec (by rw [List.getElem?_toArray]; exact ho) hf j oj (by rw [List.getElem?_toArray]; exact hj)) (by simpa using hr) hH (Or.inl h1) h2
theorem AAnyN_bs {Z : List Nat} {f : Nat} {Hs : Hp} {listed : Array Bool} {tm : List LV} {H : Hp} {K0 : List LV → Hp → Prop} (i : Nat) {o : Oper} (ho : ops[i]? = some o) (hp : bsOk T o = true)
    (hr : (Region.ready md ops.toArray listed).contains i = true) (hf : Region.free md ops.toArray listed i = true) (hz : (Z.all fun z => ancB md ops ops.length z i) = true) (hdc : dcB md ops listed = true)
    (hH : ∃ L, H = Hs ++ L) (h : AAnyN P T md ops Z Hs f (listed.setIfInBounds i true) (putA tm o.dst .nils) H K0) : AAnyN P T md ops Z Hs (f + 1) listed tm H K0 :=
  AAnyN_first ho (fun z hzz => ancB_sound _ _ _ (List.all_eq_true.1 hz z (by simpa using hzz))) f listed tm H (dcB_sound hdc) (fun j oj hj => Region.free_spec (by rw [List.getElem?_toArray]; exact ho) hf j oj (by rw [List.getElem?_toArray]; exact hj)) (by simpa using hr) hH (Or.inr ⟨hp, rfl⟩) h
theorem Rep.frame {w0 w w' : World} {μ : Nat → Pl} {H : Hp} (hR : Rep w0 μ H w) (hb : Below w0.heap.size w0 w') (ho : ∀ k, k < w.heap.size → w'.heap[k]? = w.heap[k]?) : Rep w0 μ H w' := by
  refine ⟨hb, ?_, hR.ro, ?_, hR.dj⟩
  · intro i o hi j c hc
    obtain ⟨v, k1, k2, k3⟩ := hR.cell i o hi j c hc
    exact ⟨v, (World.cell?_of_block (ho _ (cell_lt k1))).trans k1, k2, k3⟩
  · intro i o hi hro
    obtain ⟨k1, k2, k3⟩ := hR.rw i o hi hro
    refine ⟨k1, k2, ?_⟩
    rcases k3 with k3 | ⟨k3, cur, k4, k5⟩
    · exact Or.inl k3
    · by_cases hz : (μ i).size = 0
      · exact Or.inl hz
      · exact Or.inr ⟨k3, cur, (ho _ (hR.lt hi hro hz)).trans k4, k5⟩
variable (hT : TabOk P T)
include hT
theorem bs_run {o : Oper} (h : bsOk T o = true) (r : Operand → Value) (w : World) : ∃ e, (execOp r o).run P w = .ok (.value (.slice (some ⟨w.heap.size, 0, none⟩) 0 0)) (w.alloc (.cells #[] e)) := by
  unfold bsOk at h
  split at h
  case h_2 => cases h
  rename_i t parts hop hg
  simp only [Bool.and_eq_true] at h
  obtain ⟨h1, h2⟩ := h
  have hp : parts = #[] := by simpa using h1
  subst hp
  split at h2
  case h_2 => cases h2
  rename_i e sz by_ zs hs
  obtain ⟨te, ht⟩ := Option.isSome_iff_exists.1 h2
  obtain ⟨d, g1, g2⟩ := tab_und hT hs
  have hd : d = .slice e := g2
  subst hd
  have hsz := run_siz (w := w) hT ht
  refine ⟨e, ?_⟩
  have hrun : (Instr.buildSlice t 0 #[]).run P w = .ok (.slice (some ⟨w.heap.size, 0, none⟩) 0 0) (w.alloc (.cells #[] e)) := by
    simp [Instr.buildSlice, run_underlying g1, hsz, newRow, Instr.fill]
    have h0 : (Array.range 0).map (fun x : Nat => (default : Value)) = #[] := by apply Array.eq_empty_of_size_eq_zero; simp
    rw [h0]
  simp [execOp, hop, hrun]
theorem AAnyN_sound {Z : List Nat} {Hs : Hp} {w0 : World} {Q' : Exit → Act → World → Prop} {K : List LV → Hp → Prop} {μ0 : Nat → Pl} {H0 : Hp} {d0 : List Deferred}
    (hK : ∀ tm H μ w a, K tm H → Ext μ0 H0 μ H → Rep w0 μ H w → All2 (TR μ H) tm a.tmps.toList → a.defers = d0 → Q' .normal a w) :
    ∀ (f : Nat) (listed : Array Bool) (tm : List LV) (H : Hp) (μ : Nat → Pl) (w : World) (a : Act), AAnyN P T md ops Z Hs f listed tm H K → Ext μ0 H0 μ H → Rep w0 μ H w → All2 (TR μ H) tm a.tmps.toList → a.defers = d0 → wpAny P md ops.toArray Q' f listed a w
  | 0, listed, tm, H, μ, w, a, h, hx, hR, ha, hd => ⟨h.1, hK _ _ _ _ _ h.2 hx hR ha hd⟩
  | f + 1, listed, tm, H, μ, w, a, h, hx, hR, ha, hd => by
    refine ⟨fun h0 => absurd h0 h.1, fun i hi => ?_⟩
    have hi' := h.2 i hi
    unfold wpOp
    rw [List.getElem?_toArray]
    split at hi'
    · rename_i o ho
      rw [ho]
      simp only
      rcases hi' with ⟨hb, hk⟩ | hi'
      · have hw : awant ops tm o = some true := by
          have hg : o.guard = none := by
            unfold bsOk at hb
            split at hb
            · rename_i hg; exact hg
            · cases hb
          unfold awant; rw [hg]
        rw [awant_sound ha hw]
        simp only [if_true]
        refine Or.inl ?_
        obtain ⟨e, hrun⟩ := bs_run hT hb a.eval w
        unfold Oper.wp
        rw [hrun]
        refine AAnyN_sound hK f _ _ H μ _ _ hk.2 hx (hR.frame (hR.bel.alloc hR.bel.size _) fun k hk => by show (w.heap.push _)[k]? = _; rw [Array.getElem?_push, if_neg (Nat.ne_of_lt hk)]) (put_rel ha o.dst (show TR μ H .nils _ from ⟨_, rfl⟩)) ((put_defers _ _ _).trans hd)
      unfold AOp at hi'
      split at hi'
      · rename_i b hw
        rw [awant_sound ha hw]
        cases b
        · simp only [Bool.false_eq_true, if_false]
          exact AAnyN_sound hK f _ _ _ μ w _ (hi'.2 rfl).2 hx hR (put_rel (v := undef) ha o.dst (show TR μ H (.tup []) undef from ⟨#[], rfl, trivial⟩)) ((put_defers _ _ _).trans hd)
        · simp only [if_true]
          exact Or.inl (ADo_sound hT (hi'.1 rfl) hR ha fun tm' H' μ' w' a' hk hx' hR' ha' hd' => AAnyN_sound hK f _ tm' H' μ' w' a' hk.2 (hx.trans hx') hR' ha' (hd'.trans hd))
      · exact hi'.elim
    · exact hi'.elim
/-- A drawn region: operations that only look, make new objects or are empty literals, and behind all of them those of Z. -/
theorem AW_treeN {He H : Hp} {id : Nat} {tm tm1 : List LV} {H1 : Hp} {Q : Exit → List LV → Hp → Prop} (n : Nat) (Z : List Nat) (hm : P.follows .mixedOrders = true) (hn : ops.length = n)
    (h : AAnyN P T .any ops Z H n (Array.replicate n false) tm H fun tm' H' => Wk He tm' H' tm1 H1) (hq : Q .normal tm1 H1) : AW P He (.region id ops.toArray true) tm H Q := by
  subst hn
  intro w0 μe μ w a h1 h2 h3 h4
  refine wp_region_any hm ?_
  have := AAnyN_sound hT (μ0 := μ) (H0 := H) (d0 := a.defers) (Q' := Post P w0 μe He Q) (fun tm' H' μ' w' a' hk hx hR ha hd => by
    obtain ⟨μ2, k1, k2, k3⟩ := hk w0 μe μ' w' a'.tmps.toList (h1.trans hx) hR ha
    exact ⟨μ2, tm1, H1, hd.trans h4, k1, k2, k3, hq⟩) ops.length _ tm H μ _ a h (Ext.refl _ _) (h2.drewN 1) h3 rfl
  have e : ops.toArray.size = ops.length := by simp
  rw [e]
  exact this
end
end Go.Proofs.Ytpbafacehmjdmaa
