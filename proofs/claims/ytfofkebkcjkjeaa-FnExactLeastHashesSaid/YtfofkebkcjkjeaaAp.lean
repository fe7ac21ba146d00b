/- The abstract machine: regions whose order is drawn. (After the kit's Derived/Still.lean, StillTail.lean, over abstract states.) -/
import Derived.Test.YtfofkebkcjkjeaaAm
import Derived.StillTail
namespace Go.Proofs.Ytfofkebkcjkjeaa
open Go.RowKit
set_option linter.unusedSimpArgs false
set_option linter.unusedVariables false
set_option linter.unusedSectionVars false

theorem ev_put {tm : List LV} {dst : Option Tmp} {v : LV} {x : Operand} (h : ∀ d, dst = some d → x ≠ .tmp d) : ev (putA tm dst v) x = ev tm x := by
  cases dst with
  | none => rfl
  | some d =>
    cases x with
    | tmp t =>
      have hne : d ≠ t := fun e => h d rfl (e ▸ rfl)
      simp [ev, putA, List.getElem?_set_ne hne]
    | _ => rfl

theorem putA_comm (tm : List LV) {x y : Option Tmp} (v u : LV) (h : ∀ d, x = some d → y ≠ some d) : putA (putA tm x v) y u = putA (putA tm y u) x v := by
  cases x with
  | none => rfl
  | some d =>
    cases y with
    | none => rfl
    | some e =>
      have hne : d ≠ e := fun he => h d rfl (he ▸ rfl)
      simp only [putA]
      exact List.set_comm _ _ hne

theorem map_congr_ops {r r' : Operand → LV} {l : List Operand} (h : ∀ x ∈ l, r x = r' x) : l.map r = l.map r' := List.map_congr_left h
theorem parts_congr {r r' : Operand → LV} {ps : List (Nat × Operand)} (h : ∀ x ∈ ps.map (·.2), r x = r' x) : (ps.map fun p => (p.1, r p.2)) = (ps.map fun p => (p.1, r' p.2)) :=
  List.map_congr_left fun p hp => by rw [h p.2 (List.mem_map_of_mem hp)]

theorem aop_congr {T : Tab} {H : Hp} {r r' : Operand → LV} (op : Op) (h : ∀ x ∈ op.operands, r x = r' x) : aop T r H op = aop T r' H op := by
  cases op <;> simp only [Op.operands] at h <;> simp only [aop]
  case build t ps => rw [parts_congr (ps := ps.toList) fun x hx => h x (by simpa using hx)]
  case buildSlice t n ps => rw [parts_congr (ps := ps.toList) fun x hx => h x (by simpa using hx)]
  case makeFunc fn first captured => rw [map_congr_ops (l := captured.toList) fun x hx => h x (by simp; exact Or.inr (by simpa using hx))]
  case call c => rw [map_congr_ops (l := c.args.toList) fun x hx => h x (by simp [Call.operands]; exact Or.inr (by simpa using hx))]
  case slice t x lo hi mx => cases lo <;> cases hi <;> cases mx <;> simp_all
  all_goals (first | rfl | (simp_all; done))

theorem aop_put {T : Tab} {H : Hp} {ops : Array Oper} (o : Oper) (tm : List LV) (dst : Option Tmp) (v : LV) (h : ∀ d, dst = some d → d ∉ o.looksAt ops) : aop T (ev (putA tm dst v)) H o.op = aop T (ev tm) H o.op :=
  aop_congr o.op fun x hx => ev_put fun d hd hxd => h d hd (by
    subst hxd
    exact List.mem_append_left _ (List.mem_filterMap.2 ⟨.tmp d, by simpa using hx, rfl⟩))

theorem ev_put_op {ops : Array Oper} (o : Oper) (tm : List LV) (dst : Option Tmp) (v : LV) (h : ∀ d, dst = some d → d ∉ o.looksAt ops) (x : Operand) (hx : x ∈ o.op.operands) : ev (putA tm dst v) x = ev tm x :=
  ev_put fun d hd hxd => h d hd (by
    subst hxd
    exact List.mem_append_left _ (List.mem_filterMap.2 ⟨.tmp d, by simpa using hx, rfl⟩))

theorem awant_put {ops : List Oper} (o : Oper) (tm : List LV) (dst : Option Tmp) (v : LV) (h : ∀ d, dst = some d → d ∉ o.looksAt ops.toArray) : awant ops (putA tm dst v) o = awant ops tm o := by
  cases dst with
  | none => rfl
  | some d =>
    unfold awant
    cases hg : o.guard with
    | none => rfl
    | some gw =>
      obtain ⟨g, want⟩ := gw
      simp only
      cases ht : (ops[g]?).bind (·.dst) with
      | none => rfl
      | some t =>
        have hne : d ≠ t := fun e => h d rfl (by subst e; simp [Oper.looksAt, hg, ht])
        simp only [putA]
        have : (tm.set d v).getD t .junk = tm.getD t .junk := by simp [List.getElem?_set_ne hne]
        rw [this]

section
variable {P : Program} {T : Tab} {ops : List Oper} {md : Region.Mode} {H : Hp}

/-- One operation that leaves the heap alone. -/
def AQDo (P : Program) (T : Tab) (o : Oper) (tm : List LV) (H : Hp) (K : List LV → Prop) : Prop :=
  match acall o.op with
  | some (f, xs) => match ev tm f with
    | .fn g caps => ∃ x, FunH P g (xs.map (ev tm) ++ caps) H (fun r H' => r = x ∧ H' = H) ∧ K (putA tm o.dst x)
    | _ => False
  | none => match aop T (ev tm) H o.op with
    | some (r, H') => H' = H ∧ K (putA tm o.dst r)
    | none => False

def AQOp (P : Program) (T : Tab) (ops : List Oper) (H : Hp) (o : Oper) (tm : List LV) (K : List LV → Prop) : Prop :=
  match awant ops tm o with
  | some b => (b = true → AQDo P T o tm H K) ∧ (b = false → K (putA tm o.dst (.tup [])))
  | none => False

def AQOps (P : Program) (T : Tab) (ops : List Oper) (H : Hp) : List Oper → List LV → (List LV → Prop) → Prop
  | [], tm, K => K tm
  | o :: rest, tm, K => AQOp P T ops H o tm fun tm => AQOps P T ops H rest tm K

theorem AQOps_cons {o : Oper} {rest : List Oper} {tm : List LV} {K0 : List LV → Prop} (h : ∀ K : List LV → Prop, (∀ tm, AQOps P T ops H rest tm K0 → K tm) → AQOp P T ops H o tm K) : AQOps P T ops H (o :: rest) tm K0 :=
  h _ fun _ h => h
theorem AQOps_nil {tm : List LV} {K0 : List LV → Prop} (h : K0 tm) : AQOps P T ops H [] tm K0 := h

def qA (P : Program) (T : Tab) (ops : List Oper) (H : Hp) (i : Nat) (K : List LV → Prop) (tm : List LV) : Prop :=
  match ops[i]? with
  | none => K tm
  | some o => AQOp P T ops H o tm K

def YQ (P : Program) (T : Tab) (ops : List Oper) (H : Hp) (o : Oper) (x : LV) (tm : List LV) : Prop :=
  (awant ops tm o = some true ∧ ∀ K : List LV → Prop, K (putA tm o.dst x) → AQDo P T o tm H K) ∨ (awant ops tm o = some false ∧ x = .tup [])

theorem AQDo_mono {o : Oper} {tm : List LV} {K K' : List LV → Prop} (h : ∀ tm, K tm → K' tm) (hh : AQDo P T o tm H K) : AQDo P T o tm H K' := by
  unfold AQDo at *
  split at hh
  · split at hh
    · obtain ⟨x, h1, h2⟩ := hh; exact ⟨x, h1, h _ h2⟩
    · exact hh
  · split at hh
    · exact ⟨hh.1, h _ hh.2⟩
    · exact hh

theorem qA_mono {i : Nat} {tm : List LV} {K K' : List LV → Prop} (h : ∀ tm, K tm → K' tm) (hh : qA P T ops H i K tm) : qA P T ops H i K' tm := by
  unfold qA at *
  split at hh
  · exact h _ hh
  · unfold AQOp at *
    split at hh
    · exact ⟨fun e => AQDo_mono h (hh.1 e), fun e => h _ (hh.2 e)⟩
    · exact hh

theorem YQ.qA {i : Nat} {o : Oper} {x : LV} {tm : List LV} (hi : ops[i]? = some o) (hy : YQ P T ops H o x tm) {K : List LV → Prop} (h : K (putA tm o.dst x)) : qA P T ops H i K tm := by
  unfold Go.Proofs.Ytfofkebkcjkjeaa.qA AQOp
  simp only [hi]
  rcases hy with ⟨hw, hv⟩ | ⟨hw, rfl⟩
  · rw [hw]; exact ⟨fun _ => hv K h, (fun e => by cases e)⟩
  · rw [hw]; exact ⟨(fun e => by cases e), fun _ => h⟩

theorem AQDo_same {o : Oper} {tm tm' : List LV} {x : LV} {K : List LV → Prop} (he : ∀ y ∈ o.op.operands, ev tm' y = ev tm y) (h : AQDo P T o tm H fun t => t = putA tm o.dst x) (hk : K (putA tm' o.dst x)) : True := trivial

/-- What an operation yields hangs on its operands alone. -/
theorem AQDo_at {o : Oper} {tm : List LV} : ∀ {K : List LV → Prop}, AQDo P T o tm H K → ∃ x, K (putA tm o.dst x) ∧ ∀ tm' : List LV, (∀ y ∈ o.op.operands, ev tm' y = ev tm y) → ∀ K' : List LV → Prop, K' (putA tm' o.dst x) → AQDo P T o tm' H K' := by
  intro K h
  unfold AQDo at h
  split at h
  · rename_i f xs hc
    split at h
    · rename_i g caps hf
      obtain ⟨x, h1, h2⟩ := h
      refine ⟨x, h2, fun tm' he K' hk => ?_⟩
      unfold AQDo
      rw [hc]
      simp only
      have hop : ∃ c, o.op = .call c ∧ c.callee = .value f ∧ c.args.toList = xs := by
        unfold acall at hc
        split at hc
        · rename_i c hop
          split at hc
          · rename_i f' hcal
            simp only [Option.some.injEq, Prod.mk.injEq] at hc
            exact ⟨c, hop, by rw [hcal, hc.1], hc.2⟩
          · cases hc
        · cases hc
      obtain ⟨c, hop, hcal, hxs⟩ := hop
      have hf' : ev tm' f = .fn g caps := by
        rw [he f (by rw [hop]; simp [Op.operands, Call.operands, hcal])]; exact hf
      rw [hf']
      simp only
      have hm : xs.map (ev tm') = xs.map (ev tm) := List.map_congr_left fun y hy => he y (by
        rw [hop]; simp only [Op.operands, Call.operands, Array.mem_append]
        exact Or.inr (by rw [← hxs] at hy; simpa using hy))
      rw [hm]
      exact ⟨x, h1, hk⟩
    · exact h.elim
  · rename_i hc
    split at h
    · rename_i r H' hop
      obtain ⟨rfl, h2⟩ := h
      refine ⟨r, h2, fun tm' he K' hk => ?_⟩
      unfold AQDo
      rw [hc]
      simp only
      rw [aop_congr o.op he, hop]
      exact ⟨rfl, hk⟩
    · exact h.elim

theorem yq_of_qA {i : Nat} {o : Oper} {tm : List LV} {K : List LV → Prop} (hi : ops[i]? = some o) (h : qA P T ops H i K tm) : ∃ x, YQ P T ops H o x tm ∧ K (putA tm o.dst x) := by
  unfold qA AQOp at h
  simp only [hi] at h
  split at h
  · rename_i b hw
    cases b
    · exact ⟨.tup [], Or.inr ⟨hw, rfl⟩, h.2 rfl⟩
    · obtain ⟨x, h1, h2⟩ := AQDo_at (h.1 rfl)
      exact ⟨x, Or.inl ⟨hw, fun K' hk => h2 tm (fun _ _ => rfl) K' hk⟩, h1⟩
  · exact h.elim

theorem YQ.put {oi oj : Oper} {x u : LV} {tm : List LV} (hy : YQ P T ops H oi x tm) (h3 : ∀ d, oj.dst = some d → d ∉ oi.looksAt ops.toArray) : YQ P T ops H oi x (putA tm oj.dst u) := by
  rcases hy with ⟨hw, hv⟩ | ⟨hw, rfl⟩
  · refine Or.inl ⟨(awant_put oi tm oj.dst u h3).trans hw, fun K hk => ?_⟩
    obtain ⟨y, h1, h2⟩ := AQDo_at (hv (fun t => t = putA tm oi.dst x) rfl)
    have h4 := h2 (putA tm oj.dst u) (fun z hz => ev_put_op oi tm oj.dst u h3 z hz)
    by_cases hd : oi.dst = none
    · refine h4 K ?_
      rw [hd] at hk ⊢; exact hk
    · obtain ⟨d, hd⟩ := Option.ne_none_iff_exists'.1 hd
      rw [hd] at h1 hk
      by_cases hl : d < tm.length
      · have e : y = x := by
          have := congrArg (fun t : List LV => t[d]?) h1
          simpa [putA, hl] using this
        subst e
        exact h4 K (by rw [hd]; exact hk)
      · refine h4 K ?_
        rw [hd]
        have hl' : (putA tm oj.dst u).length ≤ d := by
          have hl2 := Nat.le_of_not_lt hl
          cases oj.dst <;> simp [putA] <;> exact hl2
        have e1 : putA (putA tm oj.dst u) (some d) y = putA tm oj.dst u := by simp only [putA]; exact List.set_eq_of_length_le hl'
        have e2 : putA (putA tm oj.dst u) (some d) x = putA tm oj.dst u := by simp only [putA]; exact List.set_eq_of_length_le hl'
        rw [e1]; rw [e2] at hk; exact hk
  · exact Or.inr ⟨(awant_put oi tm oj.dst u h3).trans hw, rfl⟩

theorem qA_put {j : Nat} {oi oj : Oper} {x : LV} (hj : ops[j]? = some oj) (hap : oi.apart ops.toArray oj = true) {K : List LV → Prop} {tm : List LV}
    (hy : YQ P T ops H oi x tm) (h : qA P T ops H j K (putA tm oi.dst x)) : qA P T ops H j (fun t => YQ P T ops H oi x t ∧ K (putA t oi.dst x)) tm := by
  obtain ⟨h1, h2, h3⟩ := Oper.apart_spec hap
  unfold qA AQOp at *
  simp only [hj] at *
  rw [awant_put oj tm oi.dst x h1] at h
  split at h
  · rename_i b hw
    refine ⟨fun e => ?_, fun e => ?_⟩
    · obtain ⟨y, g1, g2⟩ := AQDo_at (h.1 e)
      refine g2 tm (fun z hz => (ev_put_op oj tm oi.dst x h1 z hz).symm) _ ⟨hy.put h3, ?_⟩
      rw [← putA_comm tm x y h2]; exact g1
    · refine ⟨hy.put h3, ?_⟩
      rw [← putA_comm tm x (.tup []) h2]; exact h.2 e
  · exact h.elim

def AnyL (P : Program) (T : Tab) (md : Region.Mode) (ops : List Oper) (H : Hp) (n : Nat) (L : Array Bool → List LV → Prop) : Nat → Array Bool → List LV → Prop
  | 0, listed, tm => L listed tm
  | f + 1, listed, tm => Region.ready md ops.toArray listed ≠ [] ∧ ∀ i ∈ Region.ready md ops.toArray listed, i < n ∧ qA P T ops H i (AnyL P T md ops H n L f (listed.setIfInBounds i true)) tm

theorem AnyL_first {n i : Nat} {oi : Oper} {x : LV} {L : Array Bool → List LV → Prop} (hi : ops[i]? = some oi)
    (hlast : ∀ (listed : Array Bool), HeadInv md ops.toArray n listed → listed.getD i true = false → ∀ t, n ≤ t → t ∉ Region.ready md ops.toArray listed) (hin : i < n)
    (hdone : ∀ listed tm, L listed tm → ∀ j ∈ Region.ready md ops.toArray listed, n ≤ j) :
    ∀ (f : Nat) (listed : Array Bool) (tm : List LV), HeadInv md ops.toArray n listed →
      (∀ j oj, ops[j]? = some oj → j ≠ i → listed.getD j true = false → (∀ e ∈ oj.after, Region.binds md e = true → e.on ≠ i) → oi.apart ops.toArray oj = true) →
      i ∈ Region.ready md ops.toArray listed → YQ P T ops H oi x tm →
      AnyL P T md ops H n L f (listed.setIfInBounds i true) (putA tm oi.dst x) → AnyL P T md ops H n L (f + 1) listed tm := by
  intro f
  induction f with
  | zero =>
    intro listed tm inv _ hr hy hh
    have hun := (mem_ready.1 hr).1
    refine ⟨fun h => (by rw [h] at hr; cases hr), fun j hj => ?_⟩
    have hjn : j < n := by
      rcases Nat.lt_or_ge j n with h | h
      · exact h
      · exact absurd hj (hlast listed inv hun j h)
    refine ⟨hjn, ?_⟩
    by_cases hji : j = i
    · subst hji; exact hy.qA hi hh
    · have := hdone _ _ hh j (ready_mono hj hji)
      omega
  | succ f ih =>
    intro listed tm inv hfree hr hy hh
    have hun := (mem_ready.1 hr).1
    refine ⟨fun h => (by rw [h] at hr; cases hr), fun j hj => ?_⟩
    have hjn : j < n := by
      rcases Nat.lt_or_ge j n with h | h
      · exact h
      · exact absurd hj (hlast listed inv hun j h)
    refine ⟨hjn, ?_⟩
    by_cases hji : j = i
    · subst hji; exact hy.qA hi hh
    · have h1 := (hh.2 j (ready_mono hj hji)).2
      obtain ⟨hjun, oj, hoj, hall⟩ := mem_ready.1 hj
      have hoj' : ops[j]? = some oj := by rw [List.getElem?_toArray] at hoj; exact hoj
      have hnot : ∀ e ∈ oj.after, Region.binds md e = true → e.on ≠ i := fun e he hb heq => by
        have h1 := hall e he hb
        rw [heq, getD_both hun] at h1
        cases h1
      have h2 := qA_put hoj' (hfree j oj hoj' hji hjun hnot) hy h1
      have hfree' : ∀ k ok, ops[k]? = some ok → k ≠ i → (listed.setIfInBounds j true).getD k true = false →
          (∀ e ∈ ok.after, Region.binds md e = true → e.on ≠ i) → oi.apart ops.toArray ok = true := fun k ok hk hki hun hno => by
        refine hfree k ok hk hki ?_ hno
        by_cases hjk : j = k
        · subst hjk; exact hjun
        · rw [getD_set_ne true hjk] at hun; exact hun
      refine qA_mono (fun t h3 => ih (listed.setIfInBounds j true) t (inv.set hj hjn) hfree' (ready_mono hr (Ne.symm hji)) h3.1 ?_) h2
      rw [Array.setIfInBounds_comm _ _ hji]
      exact h3.2

theorem AnyL_lex {n g : Nat} {Lq : List LV → Prop} (hlast : ∀ i, i < n → ∀ (listed : Array Bool), HeadInv md ops.toArray n listed → listed.getD i true = false → ∀ t, n ≤ t → t ∉ Region.ready md ops.toArray listed) :
    ∀ (l : List Oper) (k : Nat) (listed : Array Bool) (tm : List LV), (∀ j, j < l.length → l[j]? = ops[k + j]?) → k + l.length = n → HeadInv md ops.toArray n listed →
    Region.lexHead md ops.toArray g l.length k listed = true → AQOps P T ops H l tm Lq →
    AnyL P T md ops H n (fun listed' t => Region.seqB md ops.toArray g n listed' = true ∧ Lq t) l.length listed tm
  | [], k, listed, tm, _, hk, _, hB, h => by
    have : k = n := by simpa using hk
    subst this
    exact ⟨by simpa [Region.lexHead] using hB, h⟩
  | o :: l, k, listed, tm, hl, hk, inv, hB, h => by
    have h0 : ops[k]? = some o := by simpa using (hl 0 (by simp)).symm
    simp only [List.length_cons, Region.lexHead, Bool.and_eq_true] at hB
    obtain ⟨⟨hr, hf⟩, hB'⟩ := hB
    have hkn : k < n := by simp only [List.length_cons] at hk; omega
    have hr' : k ∈ Region.ready md ops.toArray listed := by simpa using hr
    have hst : qA P T ops H k (fun tm => AQOps P T ops H l tm Lq) tm := by unfold qA; simp only [h0]; exact h
    obtain ⟨v, hy, hK⟩ := yq_of_qA h0 hst
    have hfs := Region.free_spec (i := k) (oi := o) (ops := ops.toArray) (by rw [List.getElem?_toArray]; exact h0) hf
    exact AnyL_first h0 (hlast k hkn) hkn (fun listed' a' hL => seqB_ready hL.1) l.length listed tm inv
      (fun j oj hj => hfs j oj (by rw [List.getElem?_toArray]; exact hj)) hr' hy
      (AnyL_lex hlast l (k + 1) _ _ (fun j hj => by have := hl (j + 1) (by simp; omega); simpa [Nat.add_assoc, Nat.add_comm 1 j] using this) (by simp only [List.length_cons] at hk; omega) (inv.set hr' hkn) hB' hK)

/-! From the abstract to the model. -/
variable (hT : TabOk P T)
include hT

theorem qA_sound {i : Nat} {tm : List LV} {K : List LV → Prop} (h : qA P T ops H i K tm) {w0 w : World} {μ : Nat → Pl} {a : Act} (hR : Rep w0 μ H w) (ha : All2 (TR μ H) tm a.tmps.toList)
    {K' : Act → World → Prop} {Q : Exit → Act → World → Prop} (hn : ∀ tm' μ' w' a', K tm' → Ext μ H μ' H → Rep w0 μ' H w' → All2 (TR μ' H) tm' a'.tmps.toList → a'.defers = a.defers → K' a' w') : wpOp P ops.toArray Q i K' a w := by
  unfold qA at h
  unfold wpOp
  rw [List.getElem?_toArray]
  split at h
  · rename_i hi; rw [hi]; exact hn _ μ w a h (Ext.refl _ _) hR ha rfl
  · rename_i o hi
    rw [hi]
    simp only
    unfold AQOp at h
    split at h
    · rename_i b hw
      rw [awant_sound ha hw]
      cases b
      · simp only [Bool.false_eq_true, if_false]
        exact hn _ μ w _ (h.2 rfl) (Ext.refl _ _) hR (put_rel (v := undef) ha o.dst (show TR μ H (.tup []) undef from ⟨#[], rfl, trivial⟩)) (put_defers _ _ _)
      · simp only [if_true]
        refine Or.inl ?_
        have hd := h.1 rfl
        have hd' : ADo P T o tm H fun tm' H' => H' = H ∧ K tm' := by
          unfold AQDo at hd
          unfold ADo
          split at hd
          · rename_i f xs hc
            split at hd
            · rename_i g caps hf
              obtain ⟨x, k1, k2⟩ := hd
              rw [hc]
              simp only
              rw [hf]
              exact k1.mono fun r H' ⟨e1, e2⟩ => ⟨e2, by rw [e1]; exact k2⟩
            · exact hd.elim
          · rename_i hc
            rw [hc]
            simp only
            split at hd
            · rename_i r H' hop
              rw [hop]
              exact hd
            · exact hd.elim
        refine ADo_sound hT hd' hR ha fun tm' H' μ' w' a' hk hx hR' ha' hdf => ?_
        obtain ⟨rfl, hk⟩ := hk
        exact hn _ μ' w' a' hk hx hR' ha' hdf
    · exact h.elim

theorem AnyL_sound {n g : Nat} {L : Array Bool → List LV → Prop} {w0 : World} {Q' : Exit → Act → World → Prop} {μ0 : Nat → Pl} {d0 : List Deferred}
    (hL : ∀ listed tm μ w a, L listed tm → Ext μ0 H μ H → Rep w0 μ H w → All2 (TR μ H) tm a.tmps.toList → a.defers = d0 → wpAny P md ops.toArray Q' g listed a w) :
    ∀ (f : Nat) (listed : Array Bool) (tm : List LV) (μ : Nat → Pl) (w : World) (a : Act), AnyL P T md ops H n L f listed tm → Ext μ0 H μ H → Rep w0 μ H w → All2 (TR μ H) tm a.tmps.toList → a.defers = d0 → wpAny P md ops.toArray Q' (f + g) listed a w
  | 0, listed, tm, μ, w, a, h, hx, hR, ha, hd => by rw [Nat.zero_add]; exact hL _ _ _ _ _ h hx hR ha hd
  | f + 1, listed, tm, μ, w, a, h, hx, hR, ha, hd => by
    rw [show f + 1 + g = (f + g) + 1 by omega]
    refine ⟨fun h0 => absurd h0 h.1, fun i hi => ?_⟩
    exact qA_sound hT (h.2 i hi).2 hR ha fun tm' μ' w' a' hk hx' hR' ha' hd' => AnyL_sound hL f _ tm' μ' w' a' hk (hx.trans hx') hR' ha' (hd'.trans hd)

/-- Quiet operations in any order, then those that follow one another. -/
theorem AW_drawn {He : Hp} {id : Nat} {tm : List LV} {Q : Exit → List LV → Hp → Prop} (n : Nat) (hm : P.follows .mixedOrders = true) (hB : Region.lexTailB .any ops.toArray n = true)
    (h : AQOps P T ops H (ops.take n) tm fun tm => AOps P T ops (ops.drop n) tm H (Q .normal)) : AW P He (.region id ops.toArray true) tm H Q := by
  intro w0 μe μ w a h1 h2 h3 h4
  simp only [Region.lexTailB, Bool.and_eq_true, decide_eq_true_eq] at hB
  obtain ⟨⟨⟨⟨hsel, hn⟩, hs⟩, hc⟩, hlex⟩ := hB
  have hn' : n < ops.length := by simpa using hn
  have htl : (ops.take n).length = n := by simp; omega
  have hdl : (ops.drop n).length = ops.toArray.size - n := by simp
  have inv0 : HeadInv .any ops.toArray n (Array.replicate ops.toArray.size false) :=
    ⟨by simp, fun j oj _ hl => (by rw [getD_replicate_false] at hl; cases hl), fun t _ ht => getD_in (by simpa using ht) (getD_replicate_false _ _)⟩
  have hA := AnyL_lex (md := .any) (g := ops.toArray.size - n) (fun i hi listed inv hun t ht => tail_waits hs hc hn inv _ i rfl hi hun t ht) (ops.take n) 0 _ tm (fun j hj => by
    have hj' : j < n := by rw [htl] at hj; exact hj
    simp [hj']) (by simpa using htl) inv0 (by rw [htl]; exact hlex) h
  refine wp_region_any hm ?_
  have := AnyL_sound hT (g := ops.toArray.size - n) (μ0 := μ) (d0 := a.defers) (Q' := Post P w0 μe He Q) (fun listed tm' μ' w' a' hL hx hR ha hd => by
    have h5 := wpAny_of_seq (md := .any) (Q' := Post P w0 μe He Q) (ops.drop n) n listed a' w' (fun j => by simp [List.getElem?_drop]) (by rw [hdl]; exact hL.1)
      (AOps_sound hT hL.2 hR ha fun tm2 H2 μ2 w2 a2 q1 q2 q3 q4 q5 => ⟨μ2, tm2, H2, (q5.trans hd).trans h4, (h1.trans hx).trans q2, q3, q4, q1⟩)
    rwa [hdl] at h5) _ _ _ μ _ a hA (Ext.refl _ _) (h2.drewN 1) h3 rfl
  rw [htl, show n + (ops.toArray.size - n) = ops.toArray.size by omega] at this
  exact this

omit hT in
theorem lexHead_zero (md : Region.Mode) (ops : Array Oper) : ∀ (f k : Nat) (listed : Array Bool), Region.lexFrom md ops f k listed = true → Region.lexHead md ops 0 f k listed = true
  | 0, _, _, h => h
  | f + 1, k, listed, h => by
    simp only [Region.lexFrom, Bool.and_eq_true] at h
    simp only [Region.lexHead, Bool.and_eq_true]
    exact ⟨h.1, lexHead_zero md ops f _ _ h.2⟩

/-- Quiet operations in any order. -/
theorem AW_quiet {He : Hp} {id : Nat} {tm : List LV} {Q : Exit → List LV → Hp → Prop} (hm : P.follows .mixedOrders = true) (hB : Region.lexB .any ops.toArray = true)
    (h : AQOps P T ops H ops tm fun tm => Q .normal tm H) : AW P He (.region id ops.toArray true) tm H Q := by
  intro w0 μe μ w a h1 h2 h3 h4
  simp only [Region.lexB, Bool.and_eq_true] at hB
  have inv0 : HeadInv .any ops.toArray ops.length (Array.replicate ops.toArray.size false) :=
    ⟨by simp, fun j oj _ hl => (by rw [getD_replicate_false] at hl; cases hl), fun t ht ht' => (by simp at ht'; omega)⟩
  have hA := AnyL_lex (md := .any) (n := ops.length) (g := 0) (fun i hi listed inv hun t ht hr => by
    obtain ⟨_, oj, hoj, _⟩ := mem_ready.1 hr
    rw [List.getElem?_toArray, List.getElem?_eq_none ht] at hoj; cases hoj) ops 0 _ tm (fun j hj => by simp) (by simp) inv0 (lexHead_zero _ _ _ _ _ (by simpa using hB.2)) h
  refine wp_region_any hm ?_
  have := AnyL_sound hT (g := 0) (μ0 := μ) (d0 := a.defers) (Q' := Post P w0 μe He Q) (fun listed tm' μ' w' a' hL hx hR ha hd => by
    have h5 := hL.1
    simp only [Region.seqB, List.isEmpty_iff] at h5
    exact ⟨h5, μ', tm', H, hd.trans h4, h1.trans hx, hR, ha, hL.2⟩) _ _ _ μ _ a hA (Ext.refl _ _) (h2.drewN 1) h3 rfl
  rw [Nat.add_zero] at this
  have e : ops.toArray.size = ops.length := by simp
  rw [e]
  exact this
end
end Go.Proofs.Ytfofkebkcjkjeaa
