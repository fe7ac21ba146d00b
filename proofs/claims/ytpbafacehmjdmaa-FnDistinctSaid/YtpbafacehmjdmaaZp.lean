/- Texts Ap, Aq, As, Wid, Sl, Fo of the abstract machine and its laws, in one. -/
import Derived.Test.YtpbafacehmjdmaaZm
import Derived.StillTail
import Derived.Laws.MakeOwn
import Derived.Laws.OwnMore
namespace Go.Proofs.Ytpbafacehmjdmaa
open Go.RowKit
set_option linter.unusedSimpArgs false
set_option linter.unusedVariables false
set_option linter.unusedSectionVars false

theorem ev_put {tm : List LV} {dst : Option Tmp} {v : LV} {x : Operand} (h : ∀ d, dst = some d → x ≠ .tmp d) : ev (putA tm dst v) x = ev tm x := by
  cases dst with
  | none => rfl
  | some d =>
    cases x with
    | tmp t =>
      have hne : d ≠ t := fun e => h d rfl (e ▸ rfl)
      simp [ev, putA, List.getElem?_set_ne hne]
    | _ => rfl

theorem putA_comm (tm : List LV) {x y : Option Tmp} (v u : LV) (h : ∀ d, x = some d → y ≠ some d) : putA (putA tm x v) y u = putA (putA tm y u) x v := by
  cases x with
  | none => rfl
  | some d =>
    cases y with
    | none => rfl
    | some e =>
      have hne : d ≠ e := fun he => h d rfl (he ▸ rfl)
      simp only [putA]
      exact List.set_comm _ _ hne

theorem map_congr_ops {r r' : Operand → LV} {l : List Operand} (h : ∀ x ∈ l, r x = r' x) : l.map r = l.map r' := List.map_congr_left h
theorem parts_congr {r r' : Operand → LV} {ps : List (Nat × Operand)} (h : ∀ x ∈ ps.map (·.2), r x = r' x) : (ps.map fun p => (p.1, r p.2)) = (ps.map fun p => (p.1, r' p.2)) :=
  List.map_congr_left fun p hp => by rw [h p.2 (List.mem_map_of_mem hp)]

theorem aop_congr {T : Tab} {H : Hp} {r r' : Operand → LV} (op : Op) (h : ∀ x ∈ op.operands, r x = r' x) : aop T r H op = aop T r' H op := by
  cases op <;> simp only [Op.operands] at h <;> simp only [aop]
  case build t ps => rw [parts_congr (ps := ps.toList) fun x hx => h x (by simpa using hx)]
  case buildSlice t n ps => rw [parts_congr (ps := ps.toList) fun x hx => h x (by simpa using hx)]
  case makeFunc fn first captured => rw [map_congr_ops (l := captured.toList) fun x hx => h x (by simp; exact Or.inr (by simpa using hx))]
  case call c => rw [map_congr_ops (l := c.args.toList) fun x hx => h x (by simp [Call.operands]; exact Or.inr (by simpa using hx))]
  case slice t x lo hi mx => cases lo <;> cases hi <;> cases mx <;> simp_all
  all_goals (first | rfl | (simp_all; done))

theorem aop_put {T : Tab} {H : Hp} {ops : Array Oper} (o : Oper) (tm : List LV) (dst : Option Tmp) (v : LV) (h : ∀ d, dst = some d → d ∉ o.looksAt ops) : aop T (ev (putA tm dst v)) H o.op = aop T (ev tm) H o.op :=
  aop_congr o.op fun x hx => ev_put fun d hd hxd => h d hd (by
    subst hxd
    exact List.mem_append_left _ (List.mem_filterMap.2 ⟨.tmp d, by simpa using hx, rfl⟩))

theorem ev_put_op {ops : Array Oper} (o : Oper) (tm : List LV) (dst : Option Tmp) (v : LV) (h : ∀ d, dst = some d → d ∉ o.looksAt ops) (x : Operand) (hx : x ∈ o.op.operands) : ev (putA tm dst v) x = ev tm x :=
  ev_put fun d hd hxd => h d hd (by
    subst hxd
    exact List.mem_append_left _ (List.mem_filterMap.2 ⟨.tmp d, by simpa using hx, rfl⟩))

theorem awant_put {ops : List Oper} (o : Oper) (tm : List LV) (dst : Option Tmp) (v : LV) (h : ∀ d, dst = some d → d ∉ o.looksAt ops.toArray) : awant ops (putA tm dst v) o = awant ops tm o := by
  cases dst with
  | none => rfl
  | some d =>
    unfold awant
    cases hg : o.guard with
    | none => rfl
    | some gw =>
      obtain ⟨g, want⟩ := gw
      simp only
      cases ht : (ops[g]?).bind (·.dst) with
      | none => rfl
      | some t =>
        have hne : d ≠ t := fun e => h d rfl (by subst e; simp [Oper.looksAt, hg, ht])
        simp only [putA]
        have : (tm.set d v).getD t .junk = tm.getD t .junk := by simp [List.getElem?_set_ne hne]
        rw [this]

section
variable {P : Program} {T : Tab} {ops : List Oper} {md : Region.Mode} {H : Hp}

/-- One operation that leaves the heap alone. -/
def AQDo (P : Program) (T : Tab) (o : Oper) (tm : List LV) (H : Hp) (K : List LV → Prop) : Prop :=
  match acall o.op with
  | some (f, xs) => match ev tm f with
    | .fn g caps => ∃ x, FunH P g (xs.map (ev tm) ++ caps) H (fun r H' => r = x ∧ H' = H) ∧ K (putA tm o.dst x)
    | _ => False
  | none => match aop T (ev tm) H o.op with
    | some (r, H') => H' = H ∧ K (putA tm o.dst r)
    | none => False

def AQOp (P : Program) (T : Tab) (ops : List Oper) (H : Hp) (o : Oper) (tm : List LV) (K : List LV → Prop) : Prop :=
  match awant ops tm o with
  | some b => (b = true → AQDo P T o tm H K) ∧ (b = false → K (putA tm o.dst (.tup [])))
  | none => False

def AQOps (P : Program) (T : Tab) (ops : List Oper) (H : Hp) : List Oper → List LV → (List LV → Prop) → Prop
  | [], tm, K => K tm
  | o :: rest, tm, K => AQOp P T ops H o tm fun tm => AQOps P T ops H rest tm K

theorem AQOps_cons {o : Oper} {rest : List Oper} {tm : List LV} {K0 : List LV → Prop} (h : ∀ K : List LV → Prop, (∀ tm, AQOps P T ops H rest tm K0 → K tm) → AQOp P T ops H o tm K) : AQOps P T ops H (o :: rest) tm K0 :=
  h _ fun _ h => h
theorem AQOps_nil {tm : List LV} {K0 : List LV → Prop} (h : K0 tm) : AQOps P T ops H [] tm K0 := h

def qA (P : Program) (T : Tab) (ops : List Oper) (H : Hp) (i : Nat) (K : List LV → Prop) (tm : List LV) : Prop :=
  match ops[i]? with
  | none => K tm
  | some o => AQOp P T ops H o tm K

def YQ (P : Program) (T : Tab) (ops : List Oper) (H : Hp) (o : Oper) (x : LV) (tm : List LV) : Prop :=
  (awant ops tm o = some true ∧ ∀ K : List LV → Prop, K (putA tm o.dst x) → AQDo P T o tm H K) ∨ (awant ops tm o = some false ∧ x = .tup [])

theorem AQDo_mono {o : Oper} {tm : List LV} {K K' : List LV → Prop} (h : ∀ tm, K tm → K' tm) (hh : AQDo P T o tm H K) : AQDo P T o tm H K' := by
  unfold AQDo at *
  split at hh
  · split at hh
    · obtain ⟨x, h1, h2⟩ := hh; exact ⟨x, h1, h _ h2⟩
    · exact hh
  · split at hh
    · exact ⟨hh.1, h _ hh.2⟩
    · exact hh

theorem qA_mono {i : Nat} {tm : List LV} {K K' : List LV → Prop} (h : ∀ tm, K tm → K' tm) (hh : qA P T ops H i K tm) : qA P T ops H i K' tm := by
  unfold qA at *
  split at hh
  · exact h _ hh
  · unfold AQOp at *
    split at hh
    · exact ⟨fun e => AQDo_mono h (hh.1 e), fun e => h _ (hh.2 e)⟩
    · exact hh

theorem YQ.qA {i : Nat} {o : Oper} {x : LV} {tm : List LV} (hi : ops[i]? = some o) (hy : YQ P T ops H o x tm) {K : List LV → Prop} (h : K (putA tm o.dst x)) : qA P T ops H i K tm := by
  unfold Go.Proofs.Ytpbafacehmjdmaa.qA AQOp
  simp only [hi]
  rcases hy with ⟨hw, hv⟩ | ⟨hw, rfl⟩
  · rw [hw]; exact ⟨fun _ => hv K h, (fun e => by cases e)⟩
  · rw [hw]; exact ⟨(fun e => by cases e), fun _ => h⟩

theorem AQDo_same {o : Oper} {tm tm' : List LV} {x : LV} {K : List LV → Prop} (he : ∀ y ∈ o.op.operands, ev tm' y = ev tm y) (h : AQDo P T o tm H fun t => t = putA tm o.dst x) (hk : K (putA tm' o.dst x)) : True := trivial

/-- What an operation yields hangs on its operands alone. -/
theorem AQDo_at {o : Oper} {tm : List LV} : ∀ {K : List LV → Prop}, AQDo P T o tm H K → ∃ x, K (putA tm o.dst x) ∧ ∀ tm' : List LV, (∀ y ∈ o.op.operands, ev tm' y = ev tm y) → ∀ K' : List LV → Prop, K' (putA tm' o.dst x) → AQDo P T o tm' H K' := by
  intro K h
  unfold AQDo at h
  split at h
  · rename_i f xs hc
    split at h
    · rename_i g caps hf
      obtain ⟨x, h1, h2⟩ := h
      refine ⟨x, h2, fun tm' he K' hk => ?_⟩
      unfold AQDo
      rw [hc]
      simp only
      have hop : ∃ c, o.op = .call c ∧ c.callee = .value f ∧ c.args.toList = xs := by
        unfold acall at hc
        split at hc
        · rename_i c hop
          split at hc
          · rename_i f' hcal
            simp only [Option.some.injEq, Prod.mk.injEq] at hc
            exact ⟨c, hop, by rw [hcal, hc.1], hc.2⟩
          · cases hc
        · cases hc
      obtain ⟨c, hop, hcal, hxs⟩ := hop
      have hf' : ev tm' f = .fn g caps := by
        rw [he f (by rw [hop]; simp [Op.operands, Call.operands, hcal])]; exact hf
      rw [hf']
      simp only
      have hm : xs.map (ev tm') = xs.map (ev tm) := List.map_congr_left fun y hy => he y (by
        rw [hop]; simp only [Op.operands, Call.operands, Array.mem_append]
        exact Or.inr (by rw [← hxs] at hy; simpa using hy))
      rw [hm]
      exact ⟨x, h1, hk⟩
    · exact h.elim
  · rename_i hc
    split at h
    · rename_i r H' hop
      obtain ⟨rfl, h2⟩ := h
      refine ⟨r, h2, fun tm' he K' hk => ?_⟩
      unfold AQDo
      rw [hc]
      simp only
      rw [aop_congr o.op he, hop]
      exact ⟨rfl, hk⟩
    · exact h.elim

theorem yq_of_qA {i : Nat} {o : Oper} {tm : List LV} {K : List LV → Prop} (hi : ops[i]? = some o) (h : qA P T ops H i K tm) : ∃ x, YQ P T ops H o x tm ∧ K (putA tm o.dst x) := by
  unfold qA AQOp at h
  simp only [hi] at h
  split at h
  · rename_i b hw
    cases b
    · exact ⟨.tup [], Or.inr ⟨hw, rfl⟩, h.2 rfl⟩
    · obtain ⟨x, h1, h2⟩ := AQDo_at (h.1 rfl)
      exact ⟨x, Or.inl ⟨hw, fun K' hk => h2 tm (fun _ _ => rfl) K' hk⟩, h1⟩
  · exact h.elim

theorem YQ.put {oi oj : Oper} {x u : LV} {tm : List LV} (hy : YQ P T ops H oi x tm) (h3 : ∀ d, oj.dst = some d → d ∉ oi.looksAt ops.toArray) : YQ P T ops H oi x (putA tm oj.dst u) := by
  rcases hy with ⟨hw, hv⟩ | ⟨hw, rfl⟩
  · refine Or.inl ⟨(awant_put oi tm oj.dst u h3).trans hw, fun K hk => ?_⟩
    obtain ⟨y, h1, h2⟩ := AQDo_at (hv (fun t => t = putA tm oi.dst x) rfl)
    have h4 := h2 (putA tm oj.dst u) (fun z hz => ev_put_op oi tm oj.dst u h3 z hz)
    by_cases hd : oi.dst = none
    · refine h4 K ?_
      rw [hd] at hk ⊢; exact hk
    · obtain ⟨d, hd⟩ := Option.ne_none_iff_exists'.1 hd
      rw [hd] at h1 hk
      by_cases hl : d < tm.length
      · have e : y = x := by
          have := congrArg (fun t : List LV => t[d]?) h1
          simpa [putA, hl] using this
        subst e
        exact h4 K (by rw [hd]; exact hk)
      · refine h4 K ?_
        rw [hd]
        have hl' : (putA tm oj.dst u).length ≤ d := by
          have hl2 := Nat.le_of_not_lt hl
          cases oj.dst <;> simp [putA] <;> exact hl2
        have e1 : putA (putA tm oj.dst u) (some d) y = putA tm oj.dst u := by simp only [putA]; exact List.set_eq_of_length_le hl'
        have e2 : putA (putA tm oj.dst u) (some d) x = putA tm oj.dst u := by simp only [putA]; exact List.set_eq_of_length_le hl'
        rw [e1]; rw [e2] at hk; exact hk
  · exact Or.inr ⟨(awant_put oi tm oj.dst u h3).trans hw, rfl⟩

theorem qA_put {j : Nat} {oi oj : Oper} {x : LV} (hj : ops[j]? = some oj) (hap : oi.apart ops.toArray oj = true) {K : List LV → Prop} {tm : List LV}
    (hy : YQ P T ops H oi x tm) (h : qA P T ops H j K (putA tm oi.dst x)) : qA P T ops H j (fun t => YQ P T ops H oi x t ∧ K (putA t oi.dst x)) tm := by
  obtain ⟨h1, h2, h3⟩ := Oper.apart_spec hap
  unfold qA AQOp at *
  simp only [hj] at *
  rw [awant_put oj tm oi.dst x h1] at h
  split at h
  · rename_i b hw
    refine ⟨fun e => ?_, fun e => ?_⟩
    · obtain ⟨y, g1, g2⟩ := AQDo_at (h.1 e)
      refine g2 tm (fun z hz => (ev_put_op oj tm oi.dst x h1 z hz).symm) _ ⟨hy.put h3, ?_⟩
      rw [← putA_comm tm x y h2]; exact g1
    · refine ⟨hy.put h3, ?_⟩
      rw [← putA_comm tm x (.tup []) h2]; exact h.2 e
  · exact h.elim

def AnyL (P : Program) (T : Tab) (md : Region.Mode) (ops : List Oper) (H : Hp) (n : Nat) (L : Array Bool → List LV → Prop) : Nat → Array Bool → List LV → Prop
  | 0, listed, tm => L listed tm
  | f + 1, listed, tm => Region.ready md ops.toArray listed ≠ [] ∧ ∀ i ∈ Region.ready md ops.toArray listed, i < n ∧ qA P T ops H i (AnyL P T md ops H n L f (listed.setIfInBounds i true)) tm

theorem AnyL_first {n i : Nat} {oi : Oper} {x : LV} {L : Array Bool → List LV → Prop} (hi : ops[i]? = some oi)
    (hlast : ∀ (listed : Array Bool), HeadInv md ops.toArray n listed → listed.getD i true = false → ∀ t, n ≤ t → t ∉ Region.ready md ops.toArray listed) (hin : i < n)
    (hdone : ∀ listed tm, L listed tm → ∀ j ∈ Region.ready md ops.toArray listed, n ≤ j) :
    ∀ (f : Nat) (listed : Array Bool) (tm : List LV), HeadInv md ops.toArray n listed →
      (∀ j oj, ops[j]? = some oj → j ≠ i → listed.getD j true = false → (∀ e ∈ oj.after, Region.binds md e = true → e.on ≠ i) → oi.apart ops.toArray oj = true) →
      i ∈ Region.ready md ops.toArray listed → YQ P T ops H oi x tm →
      AnyL P T md ops H n L f (listed.setIfInBounds i true) (putA tm oi.dst x) → AnyL P T md ops H n L (f + 1) listed tm := by
  intro f
  induction f with
  | zero =>
    intro listed tm inv _ hr hy hh
    have hun := (mem_ready.1 hr).1
    refine ⟨fun h => (by rw [h] at hr; cases hr), fun j hj => ?_⟩
    have hjn : j < n := by
      rcases Nat.lt_or_ge j n with h | h
      · exact h
      · exact absurd hj (hlast listed inv hun j h)
    refine ⟨hjn, ?_⟩
    by_cases hji : j = i
    · subst hji; exact hy.qA hi hh
    · have := hdone _ _ hh j (ready_mono hj hji)
      omega
  | succ f ih =>
    intro listed tm inv hfree hr hy hh
    have hun := (mem_ready.1 hr).1
    refine ⟨fun h => (by rw [h] at hr; cases hr), fun j hj => ?_⟩
    have hjn : j < n := by
      rcases Nat.lt_or_ge j n with h | h
      · exact h
      · exact absurd hj (hlast listed inv hun j h)
    refine ⟨hjn, ?_⟩
    by_cases hji : j = i
    · subst hji; exact hy.qA hi hh
    · have h1 := (hh.2 j (ready_mono hj hji)).2
      obtain ⟨hjun, oj, hoj, hall⟩ := mem_ready.1 hj
      have hoj' : ops[j]? = some oj := by rw [List.getElem?_toArray] at hoj; exact hoj
      have hnot : ∀ e ∈ oj.after, Region.binds md e = true → e.on ≠ i := fun e he hb heq => by
        have h1 := hall e he hb
        rw [heq, getD_both hun] at h1
        cases h1
      have h2 := qA_put hoj' (hfree j oj hoj' hji hjun hnot) hy h1
      have hfree' : ∀ k ok, ops[k]? = some ok → k ≠ i → (listed.setIfInBounds j true).getD k true = false →
          (∀ e ∈ ok.after, Region.binds md e = true → e.on ≠ i) → oi.apart ops.toArray ok = true := fun k ok hk hki hun hno => by
        refine hfree k ok hk hki ?_ hno
        by_cases hjk : j = k
        · subst hjk; exact hjun
        · rw [getD_set_ne true hjk] at hun; exact hun
      refine qA_mono (fun t h3 => ih (listed.setIfInBounds j true) t (inv.set hj hjn) hfree' (ready_mono hr (Ne.symm hji)) h3.1 ?_) h2
      rw [Array.setIfInBounds_comm _ _ hji]
      exact h3.2

theorem AnyL_lex {n g : Nat} {Lq : List LV → Prop} (hlast : ∀ i, i < n → ∀ (listed : Array Bool), HeadInv md ops.toArray n listed → listed.getD i true = false → ∀ t, n ≤ t → t ∉ Region.ready md ops.toArray listed) :
    ∀ (l : List Oper) (k : Nat) (listed : Array Bool) (tm : List LV), (∀ j, j < l.length → l[j]? = ops[k + j]?) → k + l.length = n → HeadInv md ops.toArray n listed →
    Region.lexHead md ops.toArray g l.length k listed = true → AQOps P T ops H l tm Lq →
    AnyL P T md ops H n (fun listed' t => Region.seqB md ops.toArray g n listed' = true ∧ Lq t) l.length listed tm
  | [], k, listed, tm, _, hk, _, hB, h => by
    have : k = n := by simpa using hk
    subst this
    exact ⟨by simpa [Region.lexHead] using hB, h⟩
  | o :: l, k, listed, tm, hl, hk, inv, hB, h => by
    have h0 : ops[k]? = some o := by simpa using (hl 0 (by simp)).symm
    simp only [List.length_cons, Region.lexHead, Bool.and_eq_true] at hB
    obtain ⟨⟨hr, hf⟩, hB'⟩ := hB
    have hkn : k < n := by simp only [List.length_cons] at hk; omega
    have hr' : k ∈ Region.ready md ops.toArray listed := by simpa using hr
    have hst : qA P T ops H k (fun tm => AQOps P T ops H l tm Lq) tm := by unfold qA; simp only [h0]; exact h
    obtain ⟨v, hy, hK⟩ := yq_of_qA h0 hst
    have hfs := Region.free_spec (i := k) (oi := o) (ops := ops.toArray) (by rw [List.getElem?_toArray]; exact h0) hf
    exact AnyL_first h0 (hlast k hkn) hkn (fun listed' a' hL => seqB_ready hL.1) l.length listed tm inv
      (fun j oj hj => hfs j oj (by rw [List.getElem?_toArray]; exact hj)) hr' hy
      (AnyL_lex hlast l (k + 1) _ _ (fun j hj => by have := hl (j + 1) (by simp; omega); simpa [Nat.add_assoc, Nat.add_comm 1 j] using this) (by simp only [List.length_cons] at hk; omega) (inv.set hr' hkn) hB' hK)

/-! From the abstract to the model. -/
variable (hT : TabOk P T)
include hT

theorem qA_sound {i : Nat} {tm : List LV} {K : List LV → Prop} (h : qA P T ops H i K tm) {w0 w : World} {μ : Nat → Pl} {a : Act} (hR : Rep w0 μ H w) (ha : All2 (TR μ H) tm a.tmps.toList)
    {K' : Act → World → Prop} {Q : Exit → Act → World → Prop} (hn : ∀ tm' μ' w' a', K tm' → Ext μ H μ' H → Rep w0 μ' H w' → All2 (TR μ' H) tm' a'.tmps.toList → a'.defers = a.defers → K' a' w') : wpOp P ops.toArray Q i K' a w := by
  unfold qA at h
  unfold wpOp
  rw [List.getElem?_toArray]
  split at h
  · rename_i hi; rw [hi]; exact hn _ μ w a h (Ext.refl _ _) hR ha rfl
  · rename_i o hi
    rw [hi]
    simp only
    unfold AQOp at h
    split at h
    · rename_i b hw
      rw [awant_sound ha hw]
      cases b
      · simp only [Bool.false_eq_true, if_false]
        exact hn _ μ w _ (h.2 rfl) (Ext.refl _ _) hR (put_rel (v := undef) ha o.dst (show TR μ H (.tup []) undef from ⟨#[], rfl, trivial⟩)) (put_defers _ _ _)
      · simp only [if_true]
        refine Or.inl ?_
        have hd := h.1 rfl
        have hd' : ADo P T o tm H fun tm' H' => H' = H ∧ K tm' := by
          unfold AQDo at hd
          unfold ADo
          split at hd
          · rename_i f xs hc
            split at hd
            · rename_i g caps hf
              obtain ⟨x, k1, k2⟩ := hd
              rw [hc]
              simp only
              rw [hf]
              exact k1.mono fun r H' ⟨e1, e2⟩ => ⟨e2, by rw [e1]; exact k2⟩
            · exact hd.elim
          · rename_i hc
            rw [hc]
            simp only
            split at hd
            · rename_i r H' hop
              rw [hop]
              exact hd
            · exact hd.elim
        refine ADo_sound hT hd' hR ha fun tm' H' μ' w' a' hk hx hR' ha' hdf => ?_
        obtain ⟨rfl, hk⟩ := hk
        exact hn _ μ' w' a' hk hx hR' ha' hdf
    · exact h.elim

theorem AnyL_sound {n g : Nat} {L : Array Bool → List LV → Prop} {w0 : World} {Q' : Exit → Act → World → Prop} {μ0 : Nat → Pl} {d0 : List Deferred}
    (hL : ∀ listed tm μ w a, L listed tm → Ext μ0 H μ H → Rep w0 μ H w → All2 (TR μ H) tm a.tmps.toList → a.defers = d0 → wpAny P md ops.toArray Q' g listed a w) :
    ∀ (f : Nat) (listed : Array Bool) (tm : List LV) (μ : Nat → Pl) (w : World) (a : Act), AnyL P T md ops H n L f listed tm → Ext μ0 H μ H → Rep w0 μ H w → All2 (TR μ H) tm a.tmps.toList → a.defers = d0 → wpAny P md ops.toArray Q' (f + g) listed a w
  | 0, listed, tm, μ, w, a, h, hx, hR, ha, hd => by rw [Nat.zero_add]; exact hL _ _ _ _ _ h hx hR ha hd
  | f + 1, listed, tm, μ, w, a, h, hx, hR, ha, hd => by
    rw [show f + 1 + g = (f + g) + 1 by omega]
    refine ⟨fun h0 => absurd h0 h.1, fun i hi => ?_⟩
    exact qA_sound hT (h.2 i hi).2 hR ha fun tm' μ' w' a' hk hx' hR' ha' hd' => AnyL_sound hL f _ tm' μ' w' a' hk (hx.trans hx') hR' ha' (hd'.trans hd)

/-- Quiet operations in any order, then those that follow one another. -/
theorem AW_drawn {He : Hp} {id : Nat} {tm : List LV} {Q : Exit → List LV → Hp → Prop} (n : Nat) (hm : P.follows .mixedOrders = true) (hB : Region.lexTailB .any ops.toArray n = true)
    (h : AQOps P T ops H (ops.take n) tm fun tm => AOps P T ops (ops.drop n) tm H (Q .normal)) : AW P He (.region id ops.toArray true) tm H Q := by
  intro w0 μe μ w a h1 h2 h3 h4
  simp only [Region.lexTailB, Bool.and_eq_true, decide_eq_true_eq] at hB
  obtain ⟨⟨⟨⟨hsel, hn⟩, hs⟩, hc⟩, hlex⟩ := hB
  have hn' : n < ops.length := by simpa using hn
  have htl : (ops.take n).length = n := by simp; omega
  have hdl : (ops.drop n).length = ops.toArray.size - n := by simp
  have inv0 : HeadInv .any ops.toArray n (Array.replicate ops.toArray.size false) :=
    ⟨by simp, fun j oj _ hl => (by rw [getD_replicate_false] at hl; cases hl), fun t _ ht => getD_in (by simpa using ht) (getD_replicate_false _ _)⟩
  have hA := AnyL_lex (md := .any) (g := ops.toArray.size - n) (fun i hi listed inv hun t ht => tail_waits hs hc hn inv _ i rfl hi hun t ht) (ops.take n) 0 _ tm (fun j hj => by
    have hj' : j < n := by rw [htl] at hj; exact hj
    simp [hj']) (by simpa using htl) inv0 (by rw [htl]; exact hlex) h
  refine wp_region_any hm ?_
  have := AnyL_sound hT (g := ops.toArray.size - n) (μ0 := μ) (d0 := a.defers) (Q' := Post P w0 μe He Q) (fun listed tm' μ' w' a' hL hx hR ha hd => by
    have h5 := wpAny_of_seq (md := .any) (Q' := Post P w0 μe He Q) (ops.drop n) n listed a' w' (fun j => by simp [List.getElem?_drop]) (by rw [hdl]; exact hL.1)
      (AOps_sound hT hL.2 hR ha fun tm2 H2 μ2 w2 a2 q1 q2 q3 q4 q5 => ⟨μ2, tm2, H2, (q5.trans hd).trans h4, (h1.trans hx).trans q2, q3, q4, q1⟩)
    rwa [hdl] at h5) _ _ _ μ _ a hA (Ext.refl _ _) (h2.drewN 1) h3 rfl
  rw [htl, show n + (ops.toArray.size - n) = ops.toArray.size by omega] at this
  exact this

omit hT in
theorem lexHead_zero (md : Region.Mode) (ops : Array Oper) : ∀ (f k : Nat) (listed : Array Bool), Region.lexFrom md ops f k listed = true → Region.lexHead md ops 0 f k listed = true
  | 0, _, _, h => h
  | f + 1, k, listed, h => by
    simp only [Region.lexFrom, Bool.and_eq_true] at h
    simp only [Region.lexHead, Bool.and_eq_true]
    exact ⟨h.1, lexHead_zero md ops f _ _ h.2⟩

/-- Quiet operations in any order. -/
theorem AW_quiet {He : Hp} {id : Nat} {tm : List LV} {Q : Exit → List LV → Hp → Prop} (hm : P.follows .mixedOrders = true) (hB : Region.lexB .any ops.toArray = true)
    (h : AQOps P T ops H ops tm fun tm => Q .normal tm H) : AW P He (.region id ops.toArray true) tm H Q := by
  intro w0 μe μ w a h1 h2 h3 h4
  simp only [Region.lexB, Bool.and_eq_true] at hB
  have inv0 : HeadInv .any ops.toArray ops.length (Array.replicate ops.toArray.size false) :=
    ⟨by simp, fun j oj _ hl => (by rw [getD_replicate_false] at hl; cases hl), fun t ht ht' => (by simp at ht'; omega)⟩
  have hA := AnyL_lex (md := .any) (n := ops.length) (g := 0) (fun i hi listed inv hun t ht hr => by
    obtain ⟨_, oj, hoj, _⟩ := mem_ready.1 hr
    rw [List.getElem?_toArray, List.getElem?_eq_none ht] at hoj; cases hoj) ops 0 _ tm (fun j hj => by simp) (by simp) inv0 (lexHead_zero _ _ _ _ _ (by simpa using hB.2)) h
  refine wp_region_any hm ?_
  have := AnyL_sound hT (g := 0) (μ0 := μ) (d0 := a.defers) (Q' := Post P w0 μe He Q) (fun listed tm' μ' w' a' hL hx hR ha hd => by
    have h5 := hL.1
    simp only [Region.seqB, List.isEmpty_iff] at h5
    exact ⟨h5, μ', tm', H, hd.trans h4, h1.trans hx, hR, ha, hL.2⟩) _ _ _ μ _ a hA (Ext.refl _ _) (h2.drewN 1) h3 rfl
  rw [Nat.add_zero] at this
  have e : ops.toArray.size = ops.length := by simp
  rw [e]
  exact this
end
end Go.Proofs.Ytpbafacehmjdmaa

namespace Go.Proofs.Ytpbafacehmjdmaa
open Go.RowKit
set_option linter.unusedSimpArgs false
set_option linter.unusedVariables false
set_option linter.unusedSectionVars false

section
variable {P : Program} {T : Tab} {ops : List Oper} {md : Region.Mode}

def AAny (P : Program) (T : Tab) (md : Region.Mode) (ops : List Oper) : Nat → Array Bool → List LV → Hp → (List LV → Hp → Prop) → Prop
  | 0, listed, tm, H, K => Region.ready md ops.toArray listed = [] ∧ K tm H
  | f + 1, listed, tm, H, K => Region.ready md ops.toArray listed ≠ [] ∧ ∀ i ∈ Region.ready md ops.toArray listed, match ops[i]? with
    | some o => AOp P T ops o tm H fun tm H => AAny P T md ops f (listed.setIfInBounds i true) tm H K
    | none => False
def AAll (P : Program) (T : Tab) (md : Region.Mode) (ops : List Oper) (f : Nat) (listed : Array Bool) (tm : List LV) (H : Hp) (K : List LV → Hp → Prop) : List Nat → Prop
  | [] => True
  | i :: l => (match ops[i]? with
    | some o => AOp P T ops o tm H fun tm H => AAny P T md ops f (listed.setIfInBounds i true) tm H K
    | none => False) ∧ AAll P T md ops f listed tm H K l
theorem AAll.mem {f : Nat} {listed : Array Bool} {tm : List LV} {H : Hp} {K : List LV → Hp → Prop} : ∀ {l : List Nat}, AAll P T md ops f listed tm H K l → ∀ i ∈ l, match ops[i]? with
    | some o => AOp P T ops o tm H fun tm H => AAny P T md ops f (listed.setIfInBounds i true) tm H K
    | none => False
  | [], _, i, hi => by cases hi
  | j :: l, h, i, hi => by
    rcases List.mem_cons.1 hi with rfl | hi
    · exact h.1
    · exact h.2.mem i hi
theorem AAny_leaf {listed : Array Bool} {tm : List LV} {H : Hp} {K : List LV → Hp → Prop} (hr : Region.ready md ops.toArray listed = []) (h : K tm H) : AAny P T md ops 0 listed tm H K := ⟨hr, h⟩
theorem AAny_step {f : Nat} {listed : Array Bool} {tm : List LV} {H : Hp} {K : List LV → Hp → Prop} (i : Nat) (l : List Nat) (hr : Region.ready md ops.toArray listed = i :: l) (h : AAll P T md ops f listed tm H K (i :: l)) : AAny P T md ops (f + 1) listed tm H K :=
  ⟨by rw [hr]; simp, fun j hj => by rw [hr] at hj; exact h.mem j hj⟩
theorem AAll_cons {f i : Nat} {l : List Nat} {listed : Array Bool} {tm : List LV} {H : Hp} {K0 : List LV → Hp → Prop} {o : Oper} (ho : ops[i]? = some o)
    (h : ∀ K : List LV → Hp → Prop, (∀ tm H, AAny P T md ops f (listed.setIfInBounds i true) tm H K0 → K tm H) → AOp P T ops o tm H K) (hl : AAll P T md ops f listed tm H K0 l) : AAll P T md ops f listed tm H K0 (i :: l) :=
  ⟨by rw [ho]; exact h _ fun _ _ h => h, hl⟩
theorem AAll_nil {f : Nat} {listed : Array Bool} {tm : List LV} {H : Hp} {K0 : List LV → Hp → Prop} : AAll P T md ops f listed tm H K0 [] := trivial

variable (hT : TabOk P T)
include hT
theorem AAny_sound {w0 : World} {Q' : Exit → Act → World → Prop} {K : List LV → Hp → Prop} {μ0 : Nat → Pl} {H0 : Hp} {d0 : List Deferred}
    (hK : ∀ tm H μ w a, K tm H → Ext μ0 H0 μ H → Rep w0 μ H w → All2 (TR μ H) tm a.tmps.toList → a.defers = d0 → Q' .normal a w) :
    ∀ (f : Nat) (listed : Array Bool) (tm : List LV) (H : Hp) (μ : Nat → Pl) (w : World) (a : Act), AAny P T md ops f listed tm H K → Ext μ0 H0 μ H → Rep w0 μ H w → All2 (TR μ H) tm a.tmps.toList → a.defers = d0 → wpAny P md ops.toArray Q' f listed a w
  | 0, listed, tm, H, μ, w, a, h, hx, hR, ha, hd => ⟨h.1, hK _ _ _ _ _ h.2 hx hR ha hd⟩
  | f + 1, listed, tm, H, μ, w, a, h, hx, hR, ha, hd => by
    refine ⟨fun h0 => absurd h0 h.1, fun i hi => ?_⟩
    have hi' := h.2 i hi
    unfold wpOp
    rw [List.getElem?_toArray]
    split at hi'
    · rename_i o ho
      rw [ho]
      simp only
      unfold AOp at hi'
      split at hi'
      · rename_i b hw
        rw [awant_sound ha hw]
        cases b
        · simp only [Bool.false_eq_true, if_false]
          exact AAny_sound hK f _ _ _ μ w _ (hi'.2 rfl) hx hR (put_rel (v := undef) ha o.dst (show TR μ H (.tup []) undef from ⟨#[], rfl, trivial⟩)) ((put_defers _ _ _).trans hd)
        · simp only [if_true]
          exact Or.inl (ADo_sound hT (hi'.1 rfl) hR ha fun tm' H' μ' w' a' hk hx' hR' ha' hd' => AAny_sound hK f _ tm' H' μ' w' a' hk (hx.trans hx') hR' ha' (hd'.trans hd))
      · exact hi'.elim
    · exact hi'.elim

/-- Operations in any order, all of which come to the same end. -/
theorem AW_tree {He H : Hp} {id : Nat} {tm tm1 : List LV} {H1 : Hp} {Q : Exit → List LV → Hp → Prop} (n : Nat) (hm : P.follows .mixedOrders = true) (hn : ops.length = n)
    (h : AAny P T .any ops n (Array.replicate n false) tm H fun tm' H' => tm' = tm1 ∧ H' = H1) (hq : Q .normal tm1 H1) : AW P He (.region id ops.toArray true) tm H Q := by
  subst hn
  intro w0 μe μ w a h1 h2 h3 h4
  refine wp_region_any hm ?_
  have := AAny_sound hT (μ0 := μ) (H0 := H) (d0 := a.defers) (Q' := Post P w0 μe He Q) (fun tm' H' μ' w' a' hk hx hR ha hd => by
    obtain ⟨rfl, rfl⟩ := hk
    exact ⟨μ', tm', H', hd.trans h4, h1.trans hx, hR, ha, hq⟩) ops.length _ tm H μ _ a h (Ext.refl _ _) (h2.drewN 1) h3 rfl
  have e : ops.toArray.size = ops.length := by simp
  rw [e]
  exact this
end
end Go.Proofs.Ytpbafacehmjdmaa

namespace Go.Proofs.Ytpbafacehmjdmaa
open Go.RowKit
set_option linter.unusedSimpArgs false
set_option linter.unusedVariables false
set_option linter.unusedSectionVars false

def pureB : Op → Bool
  | .move _ | .assign _ | .pick _ _ _ | .nilCheck _ | .binOp _ _ _ _ _ | .unOp _ _ _ | .convert _ _ _ | .extract _ _ => true
  | _ => false
theorem pure_acall {op : Op} (h : pureB op = true) : acall op = none := by
  cases op <;> first | rfl | cases h
theorem pure_aop {T : Tab} {r : Operand → LV} {H H' : Hp} {x : LV} {op : Op} (h : pureB op = true) (he : aop T r H op = some (x, H')) : H' = H ∧ ∀ H2, aop T r H2 op = some (x, H2) := by
  cases op
  case move a => simp only [aop, Option.some.injEq, Prod.mk.injEq] at he ⊢; exact ⟨he.2.symm, fun H2 => ⟨he.1, trivial⟩⟩
  case assign a => simp only [aop, Option.some.injEq, Prod.mk.injEq] at he ⊢; exact ⟨he.2.symm, fun H2 => ⟨he.1, trivial⟩⟩
  case pick a b c =>
    simp only [aop] at he ⊢
    split at he
    · simp only [Option.some.injEq, Prod.mk.injEq] at he ⊢; exact ⟨he.2.symm, fun H2 => ⟨he.1, trivial⟩⟩
    · cases he
  case nilCheck a =>
    simp only [aop] at he ⊢
    split at he
    · simp only [Option.some.injEq, Prod.mk.injEq] at he ⊢; exact ⟨he.2.symm, fun H2 => ⟨he.1, trivial⟩⟩
    · simp only [Option.some.injEq, Prod.mk.injEq] at he ⊢; exact ⟨he.2.symm, fun H2 => ⟨he.1, trivial⟩⟩
    · cases he
  case binOp =>
    simp only [aop, Option.map_eq_some_iff, Prod.mk.injEq] at he ⊢
    obtain ⟨a, h1, h2, h3⟩ := he
    exact ⟨h3.symm, fun H2 => ⟨a, h1, h2, trivial⟩⟩
  case unOp =>
    simp only [aop, Option.map_eq_some_iff, Prod.mk.injEq] at he ⊢
    obtain ⟨a, h1, h2, h3⟩ := he
    exact ⟨h3.symm, fun H2 => ⟨a, h1, h2, trivial⟩⟩
  case convert =>
    simp only [aop, Option.map_eq_some_iff, Prod.mk.injEq] at he ⊢
    obtain ⟨a, h1, h2, h3⟩ := he
    exact ⟨h3.symm, fun H2 => ⟨a, h1, h2, trivial⟩⟩
  case extract =>
    simp only [aop] at he ⊢
    split at he
    · simp only [Option.map_eq_some_iff, Prod.mk.injEq] at he ⊢
      obtain ⟨a, h1, h2, h3⟩ := he
      exact ⟨h3.symm, fun H2 => ⟨a, h1, h2, trivial⟩⟩
    · cases he
  all_goals cases h

section
variable {P : Program} {T : Tab} {ops : List Oper} {md : Region.Mode}

def YP (T : Tab) (ops : List Oper) (o : Oper) (x : LV) (tm : List LV) : Prop :=
  (awant ops tm o = some true ∧ acall o.op = none ∧ ∀ H : Hp, aop T (ev tm) H o.op = some (x, H)) ∨ (awant ops tm o = some false ∧ x = .tup [])
theorem YP.op {o : Oper} {x : LV} {tm : List LV} {H : Hp} {K : List LV → Hp → Prop} (h : YP T ops o x tm) (hk : K (putA tm o.dst x) H) : AOp P T ops o tm H K := by
  unfold AOp
  rcases h with ⟨h1, h2, h3⟩ | ⟨h1, rfl⟩
  · rw [h1]
    refine And.intro (fun _ => ?_) (fun h => Bool.noConfusion h)
    unfold ADo
    rw [h2]
    simp only [h3 H]
    exact hk
  · rw [h1]
    exact And.intro (fun h => Bool.noConfusion h) (fun _ => hk)
theorem YP.put {oi oj : Oper} {x u : LV} {tm : List LV} (hy : YP T ops oi x tm) (h3 : ∀ d, oj.dst = some d → d ∉ oi.looksAt ops.toArray) : YP T ops oi x (putA tm oj.dst u) := by
  rcases hy with ⟨h1, h2, h4⟩ | ⟨h1, rfl⟩
  · exact Or.inl ⟨(awant_put oi tm oj.dst u h3).trans h1, h2, fun H => by rw [aop_congr oi.op fun z hz => ev_put_op oi tm oj.dst u h3 z hz]; exact h4 H⟩
  · exact Or.inr ⟨(awant_put oi tm oj.dst u h3).trans h1, rfl⟩
theorem YP_of {o : Oper} {tm : List LV} {H : Hp} {K : List LV → Hp → Prop} (hp : pureB o.op = true) (h : AOp P T ops o tm H K) : ∃ x, YP T ops o x tm ∧ K (putA tm o.dst x) H := by
  unfold AOp at h
  split at h
  · rename_i b hw
    cases b
    · exact ⟨.tup [], Or.inr ⟨hw, rfl⟩, h.2 rfl⟩
    · have hd := h.1 rfl
      unfold ADo at hd
      rw [pure_acall hp] at hd
      simp only at hd
      split at hd
      · rename_i r H' hr
        obtain ⟨rfl, h2⟩ := pure_aop hp hr
        exact ⟨r, Or.inl ⟨hw, pure_acall hp, h2⟩, hd⟩
      · exact hd.elim
  · exact h.elim
theorem AOp_put {oi oj : Oper} {x : LV} (hap : oi.apart ops.toArray oj = true) {K : List LV → Hp → Prop} {tm : List LV} {H : Hp}
    (hy : YP T ops oi x tm) (h : AOp P T ops oj (putA tm oi.dst x) H K) : AOp P T ops oj tm H fun t H' => YP T ops oi x t ∧ K (putA t oi.dst x) H' := by
  obtain ⟨h1, h2, h3⟩ := Oper.apart_spec hap
  unfold AOp at *
  rw [awant_put oj tm oi.dst x h1] at h
  have he : ∀ y ∈ oj.op.operands, ev (putA tm oi.dst x) y = ev tm y := fun y hy => ev_put_op oj tm oi.dst x h1 y hy
  split at h
  · rename_i b hw
    refine ⟨fun e => ?_, fun e => ?_⟩
    · have hd := h.1 e
      unfold ADo at *
      split at hd
      · rename_i f xs hc
        have hop : ∃ c : Call, oj.op = .call c ∧ (∀ y ∈ xs, y ∈ oj.op.operands) ∧ f ∈ oj.op.operands := by
          unfold acall at hc
          split at hc
          · rename_i c hop
            split at hc
            · rename_i f' hcal
              simp only [Option.some.injEq, Prod.mk.injEq] at hc
              refine ⟨c, hop, fun y hy => ?_, ?_⟩
              · rw [hop]; simp only [Op.operands, Call.operands, Array.mem_append]
                exact Or.inr (by rw [← hc.2] at hy; simpa using hy)
              · rw [hop, ← hc.1]; simp [Op.operands, Call.operands, hcal]
            · cases hc
          · cases hc
        obtain ⟨c, hop, hxs, hf⟩ := hop
        rw [he f hf] at hd
        split at hd
        · rename_i g caps hg
          have hm : xs.map (ev (putA tm oi.dst x)) = xs.map (ev tm) := List.map_congr_left fun y hy => he y (hxs y hy)
          rw [hm] at hd
          exact hd.mono fun r H' hk => ⟨hy.put h3, by rw [← putA_comm tm x r h2]; exact hk⟩
        · exact hd.elim
      · rename_i hc
        rw [aop_congr oj.op he] at hd
        split at hd
        · exact ⟨hy.put h3, by rw [← putA_comm tm x _ h2]; exact hd⟩
        · exact hd.elim
    · refine ⟨hy.put h3, ?_⟩
      rw [← putA_comm tm x (.tup []) h2]; exact h.2 e
  · exact h.elim
theorem AOp_mono {o : Oper} {tm : List LV} {H : Hp} {K K' : List LV → Hp → Prop} (hk : ∀ tm H, K tm H → K' tm H) (h : AOp P T ops o tm H K) : AOp P T ops o tm H K' := by
  unfold AOp at *
  split at h
  · refine ⟨fun e => ?_, fun e => hk _ _ (h.2 e)⟩
    have hd := h.1 e
    unfold ADo at *
    split at hd
    · split at hd
      · exact hd.mono fun r H' hh => hk _ _ hh
      · exact hd.elim
    · split at hd
      · exact hk _ _ hd
      · exact hd.elim
  · exact h.elim
theorem AAny_first {i : Nat} {oi : Oper} {x : LV} {K : List LV → Hp → Prop} (hi : ops[i]? = some oi) :
    ∀ (f : Nat) (listed : Array Bool) (tm : List LV) (H : Hp),
      (∀ j oj, ops[j]? = some oj → j ≠ i → listed.getD j true = false → (∀ e ∈ oj.after, Region.binds md e = true → e.on ≠ i) → oi.apart ops.toArray oj = true) →
      i ∈ Region.ready md ops.toArray listed → YP T ops oi x tm →
      AAny P T md ops f (listed.setIfInBounds i true) (putA tm oi.dst x) H K → AAny P T md ops (f + 1) listed tm H K := by
  intro f
  induction f with
  | zero =>
    intro listed tm H _ hr hy hh
    refine ⟨fun h => (by rw [h] at hr; cases hr), fun j hj => ?_⟩
    by_cases hji : j = i
    · subst hji; rw [hi]; exact hy.op hh
    · have := ready_mono hj hji
      rw [hh.1] at this; cases this
  | succ f ih =>
    intro listed tm H hfree hr hy hh
    have hun := (mem_ready.1 hr).1
    refine ⟨fun h => (by rw [h] at hr; cases hr), fun j hj => ?_⟩
    by_cases hji : j = i
    · subst hji; rw [hi]; exact hy.op hh
    · have h1 := hh.2 j (ready_mono hj hji)
      obtain ⟨hjun, oj, hoj, hall⟩ := mem_ready.1 hj
      have hoj' : ops[j]? = some oj := by rw [List.getElem?_toArray] at hoj; exact hoj
      rw [hoj'] at h1 ⊢
      have hnot : ∀ e ∈ oj.after, Region.binds md e = true → e.on ≠ i := fun e he hb heq => by
        have h1 := hall e he hb
        rw [heq, getD_both hun] at h1
        cases h1
      have h2 := AOp_put (hfree j oj hoj' hji hjun hnot) hy h1
      have hfree' : ∀ k ok, ops[k]? = some ok → k ≠ i → (listed.setIfInBounds j true).getD k true = false →
          (∀ e ∈ ok.after, Region.binds md e = true → e.on ≠ i) → oi.apart ops.toArray ok = true := fun k ok hk hki hun hno => by
        refine hfree k ok hk hki ?_ hno
        by_cases hjk : j = k
        · subst hjk; exact hjun
        · rw [getD_set_ne true hjk] at hun; exact hun
      refine AOp_mono (fun t H' h3 => ih (listed.setIfInBounds j true) t H' hfree' (ready_mono hr (Ne.symm hji)) h3.1 ?_) h2
      rw [Array.setIfInBounds_comm _ _ hji]
      exact h3.2
theorem AAny_pure {f : Nat} {listed : Array Bool} {tm : List LV} {H : Hp} {K0 : List LV → Hp → Prop} (i : Nat) {o : Oper} (ho : ops[i]? = some o) (hp : pureB o.op = true)
    (hr : (Region.ready md ops.toArray listed).contains i = true) (hf : Region.free md ops.toArray listed i = true)
    (h : ∀ K : List LV → Hp → Prop, (∀ tm H, AAny P T md ops f (listed.setIfInBounds i true) tm H K0 → K tm H) → AOp P T ops o tm H K) : AAny P T md ops (f + 1) listed tm H K0 := by
  obtain ⟨x, h1, h2⟩ := YP_of hp (h (fun tm H => AAny P T md ops f (listed.setIfInBounds i true) tm H K0) fun _ _ h => h)
  exact AAny_first ho f listed tm H (fun j oj hj => Region.free_spec (by rw [List.getElem?_toArray]; exact ho) hf j oj (by rw [List.getElem?_toArray]; exact hj)) (by simpa using hr) h1 h2
end
end Go.Proofs.Ytpbafacehmjdmaa

namespace Go.Proofs.Ytpbafacehmjdmaa
open Ieee
set_option linter.unusedSimpArgs false
set_option linter.unusedVariables false

theorem read_single (b : Nat) (h : finB .f32 b = true) : ∃ (m e : Nat), Ieee.single.read b = .number (b / 2147483648 % 2 == 1) m (-149 + (e : Int)) ∧ m < 16777216 ∧ e ≤ 253 ∧ (e = 0 ∨ 8388608 ≤ m) := by
  have e1 : Ieee.single.signWeight = 2147483648 := rfl
  have e2 : Ieee.single.infRung = 2139095040 := rfl
  have e3 : Ieee.single.binade = 8388608 := rfl
  have e4 : Ieee.single.leastPlace = -149 := rfl
  unfold finB at h
  simp only [FloatKind.format, e1, e2, decide_eq_true_eq] at h
  unfold Format.read
  simp only [e1, e2, e3, e4]
  by_cases h1 : b % 2147483648 < 8388608
  · rw [if_pos h1]
    exact ⟨b % 2147483648, 0, by simp, by omega, by omega, by omega⟩
  · rw [if_neg h1, if_pos h]
    exact ⟨_, _, rfl, by omega, by omega, by omega⟩

theorem cut_zero (neg : Bool) (n : Nat) : Toward.even.cut neg n 0 = n := by
  unfold Toward.cut
  simp [Nat.mod_one]

/-- The word of 64 bits of a 32-bit number that is not zero. -/
theorem nearest64 (s : Bool) (m e : Nat) (hm0 : m ≠ 0) (hm : m < 16777216) (he : e ≤ 253) :
    Ieee.double.nearest s m (-149 + (e : Int)) = Ieee.double.word s ((e + m.log2 + 873) * 4503599627370496 + m * 2 ^ (52 - m.log2)) ∧ (e + m.log2 + 873) * 4503599627370496 + m * 2 ^ (52 - m.log2) < 9218868437227405312 := by
  have hl : m.log2 ≤ 23 := by
    have := (Nat.log2_lt hm0 (k := 24)).2 (by omega)
    omega
  have e2 : Ieee.double.infRung = 9218868437227405312 := rfl
  have e3 : Ieee.double.binade = 4503599627370496 := rfl
  have e4 : Ieee.double.leastPlace = -1074 := rfl
  have e5 : Ieee.double.fractionBits = 52 := rfl
  have hk : m * 2 ^ (52 - m.log2) < 9007199254740992 := by
    have h1 : m < 2 ^ (m.log2 + 1) := Nat.lt_log2_self
    have h2 : m * 2 ^ (52 - m.log2) < 2 ^ (m.log2 + 1) * 2 ^ (52 - m.log2) := Nat.mul_lt_mul_of_pos_right h1 (Nat.two_pow_pos _)
    rw [← Nat.pow_add] at h2
    have h3 : m.log2 + 1 + (52 - m.log2) = 53 := by omega
    rw [h3] at h2
    exact h2
  have hb : (e + m.log2 + 873) * 4503599627370496 + m * 2 ^ (52 - m.log2) < 9218868437227405312 := by omega
  refine ⟨?_, hb⟩
  unfold Format.nearest
  rw [if_neg hm0]
  simp only [e2, e3, e4, e5]
  have hlast : max (-149 + (e : Int) + (m.log2 : Int) - ((52 : Nat) : Int)) (-1074) = -149 + (e : Int) + (m.log2 : Int) - 52 := by omega
  rw [hlast]
  have t1 : (-149 + (e : Int) - (-149 + (e : Int) + (m.log2 : Int) - 52)).toNat = 52 - m.log2 := by omega
  have t2 : (-149 + (e : Int) + (m.log2 : Int) - 52 - (-149 + (e : Int))).toNat = 0 := by omega
  have t3 : (-149 + (e : Int) + (m.log2 : Int) - 52 - -1074).toNat = e + m.log2 + 873 := by omega
  rw [t1, t2, t3, cut_zero, Nat.shiftLeft_eq, Nat.min_eq_left (by omega)]

theorem sign_word (f : Format) (s : Bool) (r : Nat) (h : r < f.signWeight) : (f.word s r / f.signWeight % 2 == 1) = s := by
  unfold Format.word
  cases s
  · simp [Nat.div_eq_of_lt h]
  · have : (f.signWeight + r) / f.signWeight = 1 := by
      have hs : 0 < f.signWeight := Nat.two_pow_pos _
      rw [Nat.add_div_left _ hs, Nat.div_eq_of_lt h]
    simp [this]

theorem widen_inf (b : Nat) (h : finB .f32 b = true) : ∀ g m e, Ieee.single.read b = .number g m e → (Ieee.double.read (Ieee.double.write (.number g m e))).isInfinity = false := by
  intro g m e hr
  obtain ⟨m', e', hr', hm, he, _⟩ := read_single b h
  rw [← hr, hr']
  have e1 : Ieee.double.signWeight = 9223372036854775808 := rfl
  have e2 : Ieee.double.infRung = 9218868437227405312 := rfl
  show (Ieee.double.read (Ieee.double.nearest _ m' (-149 + (e' : Int)))).isInfinity = false
  have key : ∀ r : Nat, r < Ieee.double.infRung → (Ieee.double.read (Ieee.double.word (b / 2147483648 % 2 == 1) r)).isInfinity = false := by
    intro r hr
    have hlt : r < Ieee.double.signWeight := Nat.lt_trans hr Ieee.double.infRung_lt
    unfold Format.read
    simp only [word_mod _ _ _ hlt]
    split
    · rfl
    · rfl
  by_cases h0 : m' = 0
  · subst h0
    have : Ieee.double.nearest (b / 2147483648 % 2 == 1) 0 (-149 + (e' : Int)) = Ieee.double.word (b / 2147483648 % 2 == 1) 0 := by unfold Format.nearest; simp
    rw [this]
    exact key 0 (by rw [e2]; omega)
  · obtain ⟨h1, h2⟩ := nearest64 (b / 2147483648 % 2 == 1) m' e' h0 hm he
    rw [h1]
    exact key _ (by rw [e2]; exact h2)

/-- Widening a 32-bit number, up to NaN. -/
def wide (b : Nat) : Nat := Ieee.double.write (Ieee.single.read b)

theorem isNum_fin (k : FloatKind) (b : Nat) (h : isNum k b = true) : finB k b = true ∨ ∃ s, k.format.read b = .infinity s := by
  rcases read_num k b h with ⟨h1, _⟩ | ⟨_, h1⟩
  · exact Or.inl (by simp [finB, h1])
  · exact Or.inr ⟨_, h1⟩

theorem fcv_num (b : Nat) (w : World) (g : Bool) (m : Nat) (e : Int) (hr : FloatKind.f32.decode b = .number g m e) (hi : (FloatKind.f64.decode (FloatKind.f64.encode (.number g m e))).isInfinity = false) :
    fcv .f32 .f64 b w = FloatKind.f64.encode (.number g m e) ∧ fcd .f32 .f64 b = 0 := by
  unfold fcv fcd
  rw [if_neg (by decide), if_neg (by decide), hr]
  simp only [hi, Bool.false_eq_true, if_false]
  exact ⟨trivial, trivial⟩

theorem fcv_inf (b : Nat) (w : World) (g : Bool) (hr : FloatKind.f32.decode b = .infinity g) : fcv .f32 .f64 b w = FloatKind.f64.encode (.infinity g) ∧ fcd .f32 .f64 b = 0 := by
  unfold fcv fcd
  rw [if_neg (by decide), if_neg (by decide), hr]
  exact ⟨rfl, rfl⟩

theorem wide_eq (b : Nat) : wide b = FloatKind.f64.encode (FloatKind.f32.decode b) := by
  unfold wide FloatKind.encode FloatKind.decode FloatKind.format; rfl

theorem fcv_wide (b : Nat) (w : World) (h : isNum .f32 b = true) : fcv .f32 .f64 b w = wide b ∧ fcd .f32 .f64 b = 0 ∧ isNum .f64 (wide b) = true := by
  have hn : isNum .f64 (wide b) = true := by
    refine write_num .f64 _ ?_
    unfold isNum at h
    have h' : (!(Ieee.single.read b).isNaN) = true := h
    simpa using h'
  rcases isNum_fin .f32 b h with hf | ⟨s, hr⟩
  · obtain ⟨m, e, hr, _⟩ := read_single b hf
    have hi := widen_inf b hf _ _ _ hr
    obtain ⟨h1, h2⟩ := fcv_num b w _ _ _ hr hi
    have hd : FloatKind.f32.decode b = .number (b / 2147483648 % 2 == 1) m (-149 + (e : Int)) := hr
    exact ⟨by rw [h1, wide_eq, hd], h2, hn⟩
  · have hd : FloatKind.f32.decode b = .infinity s := hr
    obtain ⟨h1, h2⟩ := fcv_inf b w s hd
    exact ⟨by rw [h1, wide_eq, hd], h2, hn⟩

theorem can_fcv_wide (b : Nat) (w : World) : can .f64 (fcv .f32 .f64 b w) = (can .f32 b).map wide := by
  by_cases h : isNum .f32 b = true
  · obtain ⟨h1, h2, h3⟩ := fcv_wide b w h
    rw [h1, can_num h3, can_num h]; rfl
  · have h' : isNum .f32 b = false := by simpa using h
    rw [can_nan h']
    unfold isNum at h'
    have : ∃ s f, Ieee.single.read b = .nan s f := by
      cases hr : Ieee.single.read b <;> simp [FloatKind.format, hr, Datum.isNaN] at h'
      exact ⟨_, _, rfl⟩
    obtain ⟨s, f, hr⟩ := this
    unfold fcv
    have hd : FloatKind.f32.decode b = .nan s f := hr
    rw [if_neg (by decide), hd]
    refine can_nan ?_
    obtain ⟨s', f', hn⟩ := read_nan64 (w.tape w.drawn (.nanConv .f64 b))
    unfold isNum
    show (!(Ieee.double.read _).isNaN) = false
    show (!(Ieee.double.read ((w.tape w.drawn (.nanConv .f64 b)) % 2 * 2 ^ 63 + 0x7ff0000000000000 + 1 + (w.tape w.drawn (.nanConv .f64 b)) / 2 % (2 ^ 52 - 1))).isNaN) = false
    rw [hn]; rfl

theorem wide_sign (b : Nat) (h : isNum .f32 b = true) (hb : b < 4294967296) : (9223372036854775808 ≤ wide b) ↔ 2147483648 ≤ b := by
  have hw : wide b < 18446744073709551616 := Ieee.double.write_lt _
  have hs : (wide b / Ieee.double.signWeight % 2 == 1) = (b / 2147483648 % 2 == 1) := by
    unfold wide
    rcases isNum_fin .f32 b h with hf | ⟨s, hr⟩
    · obtain ⟨m, e, hr, hm, he, _⟩ := read_single b hf
      rw [hr]
      show (Ieee.double.nearest _ m _ / _ % 2 == 1) = _
      by_cases h0 : m = 0
      · subst h0
        have : Ieee.double.nearest (b / 2147483648 % 2 == 1) 0 (-149 + (e : Int)) = Ieee.double.word (b / 2147483648 % 2 == 1) 0 := by unfold Format.nearest; simp
        rw [this]
        exact sign_word _ _ _ (Nat.two_pow_pos _)
      · obtain ⟨h1, h2⟩ := nearest64 (b / 2147483648 % 2 == 1) m e h0 hm he
        rw [h1]
        exact sign_word _ _ _ (Nat.lt_trans h2 Ieee.double.infRung_lt)
    · have hr2 : Ieee.single.read b = .infinity s := hr
      have : Ieee.single.read b = .infinity (b / 2147483648 % 2 == 1) := by
        rcases read_num .f32 b h with ⟨_, m, e, h1, _⟩ | ⟨_, h1⟩
        · have h1' : Ieee.single.read b = _ := h1
          rw [h1'] at hr2; cases hr2
        · exact h1
      rw [this]
      exact sign_word _ _ _ Ieee.double.infRung_lt
  have e1 : Ieee.double.signWeight = 9223372036854775808 := rfl
  rw [e1] at hs
  have : (wide b / 9223372036854775808 % 2 = 1) ↔ (b / 2147483648 % 2 = 1) := by
    have := congrArg (· = true) hs
    simpa using this
  omega

end Go.Proofs.Ytpbafacehmjdmaa

namespace Go.Proofs.Ytpbafacehmjdmaa
open Go.RowKit
set_option linter.unusedSimpArgs false
set_option linter.unusedVariables false

def ix {α : Type} [Inhabited α] (xs : List α) (i : Nat) : α := xs.getD i default

theorem ix_eq {α : Type} [Inhabited α] (xs : List α) (i : Nat) (h : i < xs.length) : ix xs i = xs[i] := by
  unfold ix; simp [h]

theorem ix_get? {α : Type} [Inhabited α] (xs : List α) (i : Nat) (h : i < xs.length) : xs[i]? = some (ix xs i) := by
  rw [ix_eq xs i h]; simp

theorem take_ix {α : Type} [Inhabited α] (xs : List α) (k : Nat) (h : k < xs.length) : xs.take (k + 1) = xs.take k ++ [ix xs k] := by
  rw [ix_eq xs k h, List.take_succ_eq_append_getElem h]

theorem all_ix {α : Type} [Inhabited α] (xs : List α) (p : α → Bool) : xs.all p = true ↔ ∀ j, j < xs.length → p (ix xs j) = true := by
  rw [List.all_eq_true]
  constructor
  · intro h j hj; exact h _ (by rw [ix_eq xs j hj]; exact List.getElem_mem hj)
  · intro h x hx
    obtain ⟨j, hj, rfl⟩ := List.getElem_of_mem hx
    rw [← ix_eq xs j hj]; exact h j hj

theorem all_ix_false {α : Type} [Inhabited α] (xs : List α) (p : α → Bool) (j : Nat) (hj : j < xs.length) (h : p (ix xs j) = false) : xs.all p = false := by
  cases e : xs.all p
  · rfl
  · rw [(all_ix xs p).1 e j hj] at h; cases h

/-- The slice a, n reads as xs. -/
def Rd {α : Type} [Inhabited α] (w : World) (f : α → Value) (a : Option Addr) (n : Nat) (xs : List α) : Prop :=
  n = xs.length ∧ n ≤ 17592186044416 ∧ (xs = [] ∨ ∃ b off, a = some ⟨b, off, none⟩ ∧ b < w.heap.size ∧ ∀ i, i < xs.length → w.cell? ⟨b, off + i, none⟩ = some (f (ix xs i)))

theorem Rd.below {α : Type} [Inhabited α] {w w' : World} {f : α → Value} {a : Option Addr} {n : Nat} {xs : List α} (h : Rd w f a n xs) (hb : Below w.heap.size w w') : Rd w' f a n xs := by
  obtain ⟨h1, h2, h3⟩ := h
  refine ⟨h1, h2, h3.imp id ?_⟩
  rintro ⟨b, off, rfl, hlt, hc⟩
  exact ⟨b, off, rfl, Nat.lt_of_lt_of_le hlt hb.size, fun i hi => (hb.cell (p := ⟨b, off + i, none⟩) hlt).trans (hc i hi)⟩

theorem Rd.drewN {α : Type} [Inhabited α] {w : World} {f : α → Value} {a : Option Addr} {n : Nat} {xs : List α} (h : Rd w f a n xs) (m : Nat) : Rd (w.drewN m) f a n xs := h.below (below_drewN' (Below.refl _ _))

/-- What the call owns reads. -/
theorem own_rd {α : Type} [Inhabited α] {w : World} {base : Nat} {e : TypeId} {v : Value} {n : Nat} {f : α → Value} {xs : List α} (h : w.ownsRow base e 1 v n (xs.map f)) (hn : n ≤ 17592186044416) :
    ∃ a cap, v = .slice a n cap ∧ Rd w f a n xs := by
  obtain ⟨hl, h⟩ := h
  have hl' : n = xs.length := by simpa using hl.symm
  rcases h with ⟨rfl, rfl⟩ | ⟨g, cap, cur, rfl, hb, hg, hc, _, hs, ht⟩
  · exact ⟨none, 0, rfl, hl', hn, Or.inl (List.eq_nil_of_length_eq_zero hl'.symm)⟩
  · refine ⟨_, _, rfl, hl', hn, Or.inr ⟨g, 0, rfl, ?_, ?_⟩⟩
    · rcases Nat.lt_or_ge g w.heap.size with h | h
      · exact h
      · simp [Array.getElem?_eq_none h] at hg
    · intro i hi
      have hi' : (xs.map f)[i]? = some (f (ix xs i)) := by rw [List.getElem?_map, ix_get? xs i hi]; rfl
      rw [← ht, List.getElem?_take, if_pos (by omega)] at hi'
      rw [Nat.zero_add, cell_of_row w g i cur e (0, 0) hg]
      simpa using hi'

theorem own_below {w w' : World} {base : Nat} {e : TypeId} {s : Nat} {v : Value} {n : Nat} {xs : List Value} (h : w.ownsRow base e s v n xs) (hb : Below w.heap.size w w') : w'.ownsRow base e s v n xs := by
  obtain ⟨hl, h⟩ := h
  refine ⟨hl, h.imp id ?_⟩
  rintro ⟨g, cap, cur, rfl, h1, hg, r⟩
  have hlt : g < w.heap.size := by
    rcases Nat.lt_or_ge g w.heap.size with h | h
    · exact h
    · simp [Array.getElem?_eq_none h] at hg
  exact ⟨g, cap, cur, rfl, h1, (hb.block g hlt).trans hg, r⟩

theorem own_mono {w : World} {base base' : Nat} {e : TypeId} {s : Nat} {v : Value} {n : Nat} {xs : List Value} (h : w.ownsRow base e s v n xs) (hb : base' ≤ base) : w.ownsRow base' e s v n xs := by
  obtain ⟨hl, h⟩ := h
  refine ⟨hl, h.imp id ?_⟩
  rintro ⟨g, cap, cur, rfl, h1, r⟩
  exact ⟨g, cap, cur, rfl, by omega, r⟩

theorem madeOne (z : Value) (n : Nat) : (madeCells #[z] n).toList = List.replicate n z := toList_madeCells_one z n

end Go.Proofs.Ytpbafacehmjdmaa

namespace Go.Proofs.Ytpbafacehmjdmaa
/-- A number that comes from a 32-bit word, or none. -/
def FOk (o : Option Nat) : Prop := ∀ b, o = some b → isNum .f32 b = true ∧ b < 4294967296
theorem can_lit32 {b : Nat} (h : b % 2147483648 ≤ 2139095040) : can .f32 b = some b := can_num ((isNum_iff .f32 b).2 h)
theorem can_lit64 {b : Nat} (h : b % 9223372036854775808 ≤ 9218868437227405312) : can .f64 b = some b := can_num ((isNum_iff .f64 b).2 h)
attribute [go_sem] can_lit32 can_lit64
theorem ite_zero {α : Type} {b : Int} {x y : α} (h : ¬ b = 0) : (if b = 0 then x else y) = y := if_neg h
theorem len_add {α : Type} (H : List α) (a b : Nat) : H.length + a + b = H.length + (a + b) := Nat.add_assoc _ _ _
attribute [go_sem] len_add ite_zero Option.isSome_some Option.isSome_none
end Go.Proofs.Ytpbafacehmjdmaa

