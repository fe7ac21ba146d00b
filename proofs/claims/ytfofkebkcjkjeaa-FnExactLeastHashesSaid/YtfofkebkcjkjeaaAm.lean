/- The abstract machine: calls, code, and their soundness. -/
import Derived.Test.YtfofkebkcjkjeaaAl
import Derived.Tactics
namespace Go.Proofs.Ytfofkebkcjkjeaa
open Go.RowKit
set_option linter.unusedSimpArgs false
set_option linter.unusedVariables false
set_option linter.unusedSectionVars false

/-- What a call comes to. -/
def Comes1 (P : Program) (w0 : World) (μ : Nat → Pl) (H : Hp) (Q : LV → Hp → Prop) (v : Value) (w' : World) : Prop :=
  ∃ r μ' H', Rep w0 μ' H' w' ∧ TR μ' H' r v ∧ Ext μ H μ' H' ∧ Q r H'

def FunH (P : Program) (g : FuncId) (args : List LV) (H : Hp) (Q : LV → Hp → Prop) : Prop :=
  ∀ (w0 : World) (μ : Nat → Pl) (w : World) (cargs : Array Value), Rep w0 μ H w → All2 (TR μ H) args cargs.toList →
    match (callFunc g cargs).run P w with
    | .ok (.enter f as_) w' => Calls P f as_ w' fun e w'' => ∃ v, e = .returned v ∧ Comes1 P w0 μ H Q v w''
    | .ok (.value v) w' => Comes1 P w0 μ H Q v w'
    | _ => False

theorem FunH.mono {P : Program} {g : FuncId} {args : List LV} {H : Hp} {Q Q' : LV → Hp → Prop} (h : FunH P g args H Q) (hq : ∀ r H', Q r H' → Q' r H') : FunH P g args H Q' := by
  intro w0 μ w cargs hR ha
  have := h w0 μ w cargs hR ha
  have hm : ∀ v w', Comes1 P w0 μ H Q v w' → Comes1 P w0 μ H Q' v w' := fun v w' ⟨r, μ', H', a, b, c, d⟩ => ⟨r, μ', H', a, b, c, hq _ _ d⟩
  split at this
  · rename_i f as_ w' he
    exact this.mono fun e w'' ⟨v, h1, h2⟩ => ⟨v, h1, hm _ _ h2⟩
  · exact hm _ _ this
  · exact this.elim

def putA (tm : List LV) (d : Option Tmp) (v : LV) : List LV := match d with
  | some d => tm.set d v
  | none => tm

def awant (ops : List Oper) (tm : List LV) (o : Oper) : Option Bool := match o.guard with
  | none => some true
  | some (j, want) => match (ops[j]?).bind (·.dst) with
    | some d => match tm.getD d .junk with
      | .bool b => some (if want then b else !b)
      | .tup [] => some false
      | _ => none
    | none => none

def acall : Op → Option (Operand × List Operand)
  | .call c => match c.callee with
    | .value f => some (f, c.args.toList)
    | _ => none
  | _ => none

/-- One operation that is wanted. -/
def ADo (P : Program) (T : Tab) (o : Oper) (tm : List LV) (H : Hp) (K : List LV → Hp → Prop) : Prop :=
  match acall o.op with
  | some (f, xs) => match ev tm f with
    | .fn g caps => FunH P g (xs.map (ev tm) ++ caps) H fun r H' => K (putA tm o.dst r) H'
    | _ => False
  | none => match aop T (ev tm) H o.op with
    | some (r, H') => K (putA tm o.dst r) H'
    | none => False

def AOp (P : Program) (T : Tab) (ops : List Oper) (o : Oper) (tm : List LV) (H : Hp) (K : List LV → Hp → Prop) : Prop :=
  match awant ops tm o with
  | some b => (b = true → ADo P T o tm H K) ∧ (b = false → K (putA tm o.dst (.tup [])) H)
  | none => False

def AOps (P : Program) (T : Tab) (ops : List Oper) : List Oper → List LV → Hp → (List LV → Hp → Prop) → Prop
  | [], tm, H, K => K tm H
  | o :: rest, tm, H, K => AOp P T ops o tm H fun tm H => AOps P T ops rest tm H K

theorem AOps_cons {P : Program} {T : Tab} {ops : List Oper} {o : Oper} {rest : List Oper} {tm : List LV} {H : Hp} {K0 : List LV → Hp → Prop} (h : ∀ K : List LV → Hp → Prop, (∀ tm H, AOps P T ops rest tm H K0 → K tm H) → AOp P T ops o tm H K) : AOps P T ops (o :: rest) tm H K0 :=
  h _ fun _ _ h => h
theorem AOps_nil {P : Program} {T : Tab} {ops : List Oper} {tm : List LV} {H : Hp} {K0 : List LV → Hp → Prop} (h : K0 tm H) : AOps P T ops [] tm H K0 := h

theorem put_rel {μ : Nat → Pl} {H : Hp} {tm : List LV} {a : Act} (h : All2 (TR μ H) tm a.tmps.toList) (d : Option Tmp) {x : LV} {v : Value} (hx : TR μ H x v) : All2 (TR μ H) (putA tm d x) (a.put d v).tmps.toList := by
  cases d with
  | none => exact h
  | some d =>
    simp only [putA, Act.put, Array.toList_setIfInBounds]
    exact h.set d hx

theorem put_defers (a : Act) (d : Option Tmp) (v : Value) : (a.put d v).defers = a.defers := by cases d <;> rfl

theorem awant_sound {μ : Nat → Pl} {H : Hp} {tm : List LV} {a : Act} (h : All2 (TR μ H) tm a.tmps.toList) {ops : List Oper} {o : Oper} {b : Bool} (hw : awant ops tm o = some b) : Region.wanted o (yielded ops.toArray a.tmps) = b := by
  unfold awant at hw
  unfold Region.wanted
  cases hg : o.guard with
  | none => rw [hg] at hw; simp only [Option.some.injEq] at hw; exact hw
  | some jw =>
    obtain ⟨j, want⟩ := jw
    rw [hg] at hw
    simp only at hw ⊢
    cases hd : (ops[j]?).bind (·.dst) with
    | none => rw [hd] at hw; cases hw
    | some d =>
      rw [hd] at hw
      simp only at hw
      split at hw
      · rename_i b' hb
        have hlt : d < tm.length := by
          rcases Nat.lt_or_ge d tm.length with h | h
          · exact h
          · simp [List.getElem?_eq_none h] at hb
        obtain ⟨v, k1, k2⟩ := h.get d tm[d] (by simp [hlt])
        have e : tm[d] = .bool b' := by simpa [hlt] using hb
        rw [e] at k2
        have hv : v = .bool b' := k2
        subst hv
        have hy : yielded ops.toArray a.tmps j = some b' := by
          unfold yielded
          rw [List.getElem?_toArray, hd]
          simp only [Option.bind_some]
          rw [← Array.getElem?_toList, k1]
        rw [hy]
        simp only [Option.some.injEq] at hw
        subst hw
        cases want <;> cases b' <;> rfl
      · rename_i hb
        have hlt : d < tm.length := by
          rcases Nat.lt_or_ge d tm.length with h | h
          · exact h
          · simp [List.getElem?_eq_none h] at hb
        obtain ⟨v, k1, k2⟩ := h.get d tm[d] (by simp [hlt])
        have e : tm[d] = .tup [] := by simpa [hlt] using hb
        rw [e] at k2
        have hv : v = undef := by
          obtain ⟨vs, h1, h2⟩ := k2
          obtain ⟨l⟩ := vs
          cases l with
          | nil => exact h1
          | cons a l => exact h2.elim
        subst hv
        have hy : yielded ops.toArray a.tmps j = none := by
          unfold yielded
          rw [List.getElem?_toArray, hd]
          simp only [Option.bind_some]
          rw [← Array.getElem?_toList, k1]
          rfl
        rw [hy]
        simp only [Option.some.injEq] at hw
        subst hw
        rfl
      · cases hw

section
variable {P : Program} {T : Tab} (hT : TabOk P T)
include hT

theorem ADo_sound {o : Oper} {tm : List LV} {H : Hp} {K : List LV → Hp → Prop} (h : ADo P T o tm H K) {w0 w : World} {μ : Nat → Pl} {a : Act} (hR : Rep w0 μ H w) (ha : All2 (TR μ H) tm a.tmps.toList)
    {next : Act → World → Prop} {Q : Exit → Act → World → Prop} (hn : ∀ tm' H' μ' w' a', K tm' H' → Ext μ H μ' H' → Rep w0 μ' H' w' → All2 (TR μ' H') tm' a'.tmps.toList → a'.defers = a.defers → next a' w') : o.wp P a w next Q := by
  unfold ADo at h
  split at h
  · rename_i f xs hc
    split at h
    · rename_i g caps hf
      -- the call
      unfold acall at hc
      split at hc
      case h_2 => cases hc
      rename_i c hop
      split at hc
      case h_2 => cases hc
      rename_i f' hcal
      simp only [Option.some.injEq, Prod.mk.injEq] at hc
      obtain ⟨rfl, rfl⟩ := hc
      have hfv := TR_ev ha f'
      rw [hf] at hfv
      obtain ⟨vs, hfv, hcaps⟩ := hfv
      have hargs : All2 (TR μ H) (c.args.toList.map (ev tm) ++ caps) ((c.args.map a.eval) ++ vs).toList := by
        rw [Array.toList_append, Array.toList_map]
        exact (All2.maps (fun x => TR_ev ha x) c.args.toList).app (hcaps.mono fun _ _ => TR.of_BR)
      have hcall := h w0 μ w _ hR hargs
      have hrun : (execOp a.eval o).run P w = (callFunc g ((c.args.map a.eval) ++ vs)).run P w := by
        simp [execOp, hop, resolve, hcal, hfv, Deferred.ofValue, invoke]
      unfold Oper.wp
      rw [hrun]
      split at hcall
      · rename_i f2 as2 w' he
        rw [he]
        refine Calls.mono hcall fun e w'' ⟨v, h1, r, μ', H', k1, k2, k3, k4⟩ => ?_
        subst h1
        exact hn _ _ μ' w'' _ k4 k3 k1 (put_rel (ha.mono fun _ _ => TR.ext k3) o.dst k2) (put_defers _ _ _)
      · rename_i v w' he
        rw [he]
        obtain ⟨r, μ', H', k1, k2, k3, k4⟩ := hcall
        exact hn _ _ μ' w' _ k4 k3 k1 (put_rel (ha.mono fun _ _ => TR.ext k3) o.dst k2) (put_defers _ _ _)
      · exact hcall.elim
    · exact h.elim
  · split at h
    · rename_i r H' hop
      obtain ⟨w', μ', hv, k1, k2⟩ := aop_sound hT hR (fun x => TR_ev ha x) hop
      unfold Oper.wp
      rcases hv with ⟨v, hrun, hx⟩ | ⟨hrun, rfl⟩
      · rw [hrun]
        exact hn _ _ μ' w' _ h k2 k1 (put_rel (ha.mono fun _ _ => TR.ext k2) o.dst hx) (put_defers _ _ _)
      · rw [hrun]
        exact hn _ _ μ' w' _ h k2 k1 (put_rel (v := undef) (ha.mono fun _ _ => TR.ext k2) o.dst trivial) (put_defers _ _ _)
    · exact h.elim

theorem AOps_sound {ops : List Oper} : ∀ {l : List Oper} {tm : List LV} {H : Hp} {K : List LV → Hp → Prop}, AOps P T ops l tm H K → ∀ {w0 w : World} {μ : Nat → Pl} {a : Act}, Rep w0 μ H w → All2 (TR μ H) tm a.tmps.toList →
    ∀ {Q : Exit → Act → World → Prop}, (∀ tm' H' μ' w' a', K tm' H' → Ext μ H μ' H' → Rep w0 μ' H' w' → All2 (TR μ' H') tm' a'.tmps.toList → a'.defers = a.defers → Q .normal a' w') → wpList P ops.toArray Q l a w
  | [], tm, H, K, h, w0, w, μ, a, hR, ha, Q, hQ => hQ tm H μ w a h (Ext.refl _ _) hR ha rfl
  | o :: l, tm, H, K, h, w0, w, μ, a, hR, ha, Q, hQ => by
    simp only [AOps, AOp] at h
    simp only [wpList]
    split at h
    · rename_i b hw
      rw [awant_sound ha hw]
      cases b
      case false =>
        have h := h.2 rfl
        simp only [Bool.false_eq_true, if_false]
        exact AOps_sound h hR (put_rel (v := undef) ha o.dst (show TR μ H (.tup []) undef from ⟨#[], rfl, trivial⟩)) fun tm2 H2 μ2 w2 a2 q1 q2 q3 q4 q5 => hQ tm2 H2 μ2 w2 a2 q1 q2 q3 q4 (q5.trans (put_defers _ _ _))
      have h := h.1 rfl
      simp only [if_true]
      refine Or.inl (ADo_sound hT h hR ha fun tm' H' μ' w' a' hk hx hR' ha' hd => ?_)
      exact AOps_sound hk hR' ha' fun tm2 H2 μ2 w2 a2 q1 q2 q3 q4 q5 => hQ tm2 H2 μ2 w2 a2 q1 (hx.trans q2) q3 q4 (q5.trans hd)
    · exact h.elim
end

/-! Code. 'He': the heap when the function was entered. -/
def Post (P : Program) (w0 : World) (μe : Nat → Pl) (He : Hp) (Q : Exit → List LV → Hp → Prop) (e : Exit) (a : Act) (w : World) : Prop :=
  ∃ μ tm H, a.defers = [] ∧ Ext μe He μ H ∧ Rep w0 μ H w ∧ All2 (TR μ H) tm a.tmps.toList ∧ Q e tm H

def AW (P : Program) (He : Hp) (c : Code) (tm : List LV) (H : Hp) (Q : Exit → List LV → Hp → Prop) : Prop :=
  ∀ (w0 : World) (μe μ : Nat → Pl) (w : World) (a : Act), Ext μe He μ H → Rep w0 μ H w → All2 (TR μ H) tm a.tmps.toList → a.defers = [] → c.wp P (Post P w0 μe He Q) a w

/-- A state told more weakly. -/
def Wk (He : Hp) (tm : List LV) (H : Hp) (tm' : List LV) (H' : Hp) : Prop :=
  ∀ (w0 : World) (μe μ : Nat → Pl) (w : World) (vs : List Value), Ext μe He μ H → Rep w0 μ H w → All2 (TR μ H) tm vs → ∃ μ', Ext μe He μ' H' ∧ Rep w0 μ' H' w ∧ All2 (TR μ' H') tm' vs

section
variable {P : Program} {He : Hp} {tm : List LV} {H : Hp} {Q : Exit → List LV → Hp → Prop}

theorem Wk.refl : Wk He tm H tm H := fun w0 μe μ w vs h1 h2 h3 => ⟨μ, h1, h2, h3⟩
theorem Wk.trans {tm' tm'' : List LV} {H' H'' : Hp} (h : Wk He tm H tm' H') (k : Wk He tm' H' tm'' H'') : Wk He tm H tm'' H'' := fun w0 μe μ w vs h1 h2 h3 =>
  let ⟨μ', a, b, c⟩ := h w0 μe μ w vs h1 h2 h3
  k w0 μe μ' w vs a b c

theorem AW.mono {c : Code} {Q' : Exit → List LV → Hp → Prop} (h : AW P He c tm H Q) (hq : ∀ e tm H, Q e tm H → Q' e tm H) : AW P He c tm H Q' := fun w0 μe μ w a h1 h2 h3 h4 =>
  wp_mono (h w0 μe μ w a h1 h2 h3 h4) fun e a w ⟨μ, tm, H, p1, p2, p3, p4, p5⟩ => ⟨μ, tm, H, p1, p2, p3, p4, hq _ _ _ p5⟩

theorem AW.weak {c : Code} {tm' : List LV} {H' : Hp} (hw : Wk He tm H tm' H') (h : AW P He c tm' H' Q) : AW P He c tm H Q := fun w0 μe μ w a h1 h2 h3 h4 =>
  let ⟨μ', b1, b2, b3⟩ := hw w0 μe μ w a.tmps.toList h1 h2 h3
  h w0 μe μ' w a b1 b2 b3 h4

theorem AW_skip (h : Q .normal tm H) : AW P He .skip tm H Q := fun w0 μe μ w a h1 h2 h3 h4 => wp_skip ⟨μ, tm, H, h4, h1, h2, h3, h⟩
theorem AW_label {l : Nat} (h : Q .normal tm H) : AW P He (.label l) tm H Q := fun w0 μe μ w a h1 h2 h3 h4 => wp_label ⟨μ, tm, H, h4, h1, h2, h3, h⟩
theorem AW_exit {id : Nat} (h : Q (.exit id) tm H) : AW P He (.exit id) tm H Q := fun w0 μe μ w a h1 h2 h3 h4 => wp_exit ⟨μ, tm, H, h4, h1, h2, h3, h⟩
theorem AW_ret (h : Q .ret tm H) : AW P He .ret tm H Q := fun w0 μe μ w a h1 h2 h3 h4 => wp_ret ⟨μ, tm, H, h4, h1, h2, h3, h⟩

def thenA (K : List LV → Hp → Prop) (Q : Exit → List LV → Hp → Prop) : Exit → List LV → Hp → Prop
  | .normal, tm, H => K tm H
  | e, tm, H => Q e tm H

theorem AW_seq {x y : Code} (h : ∀ K : List LV → Hp → Prop, (∀ tm H, AW P He y tm H Q → K tm H) → AW P He x tm H (thenA K Q)) : AW P He (.seq x y) tm H Q := by
  intro w0 μe μ w a h1 h2 h3 h4
  refine wp_seq (wp_mono (h (fun tm H => AW P He y tm H Q) (fun _ _ h => h) w0 μe μ w a h1 h2 h3 h4) ?_)
  rintro e a w ⟨μ', tm', H', p1, p2, p3, p4, p5⟩
  cases e <;> simp only [thenA] at p5 <;> simp only [Exit.then]
  case normal => exact p5 w0 μe μ' w a p2 p3 p4 p1
  all_goals exact ⟨μ', tm', H', p1, p2, p3, p4, p5⟩

theorem AW_cond {c : Operand} {x y : Code} {b : Bool} (hc : ev tm c = .bool b) (ht : b = true → AW P He x tm H Q) (hf : b = false → AW P He y tm H Q) : AW P He (.cond c x y) tm H Q := by
  intro w0 μe μ w a h1 h2 h3 h4
  have := TR_ev h3 c
  rw [hc] at this
  refine wp_cond_split (t := b) this (fun e => ht e w0 μe μ w a h1 h2 h3 h4) (fun e => hf e w0 μe μ w a h1 h2 h3 h4)

def blockA (id : Nat) (Q : Exit → List LV → Hp → Prop) : Exit → List LV → Hp → Prop
  | .exit id', tm, H => if id' = id then Q .normal tm H else Q (.exit id') tm H
  | e, tm, H => Q e tm H

theorem AW_block {id : Nat} {c : Code} (h : AW P He c tm H (blockA id Q)) : AW P He (.block id c) tm H Q := by
  intro w0 μe μ w a h1 h2 h3 h4
  refine wp_block (wp_mono (h w0 μe μ w a h1 h2 h3 h4) ?_)
  rintro e a w ⟨μ', tm', H', p1, p2, p3, p4, p5⟩
  cases e <;> simp only [blockA] at p5 <;> simp only [Exit.inBlock]
  case exit id' =>
    split
    · rename_i hid; rw [if_pos hid] at p5; exact ⟨μ', tm', H', p1, p2, p3, p4, p5⟩
    · rename_i hid; rw [if_neg hid] at p5; exact ⟨μ', tm', H', p1, p2, p3, p4, p5⟩
  all_goals exact ⟨μ', tm', H', p1, p2, p3, p4, p5⟩

/-- A loop: at the head of every round the state is one of a family. -/
theorem AW_loop {c : Code} {ι : Type} (S : ι → List LV × Hp) (ok : ι → Prop) (m : ι → Nat) (i0 : ι) (h0 : ok i0) (hw : Wk He tm H (S i0).1 (S i0).2)
    (hr : ∀ i, ok i → ∀ K : List LV → Hp → Prop, (∀ tm' H' j, ok j → m j < m i → Wk He tm' H' (S j).1 (S j).2 → K tm' H') → AW P He c (S i).1 (S i).2 (thenA K Q)) : AW P He (.loop c) tm H Q := by
  intro w0 μe μ w a h1 h2 h3 h4
  obtain ⟨μ1, b1, b2, b3⟩ := hw w0 μe μ w a.tmps.toList h1 h2 h3
  have key : ∀ n i, m i = n → ok i → ∀ μ w a, Ext μe He μ (S i).2 → Rep w0 μ (S i).2 w → All2 (TR μ (S i).2) (S i).1 a.tmps.toList → a.defers = [] →
      ∀ (b : Frame) (k : List Item) (cs : List Frame), ∃ e a' w', Post P w0 μe He Q e a' w' ∧ Arrives P (lone (b.at a (.code c :: .inLoop c :: k)) cs w) b k cs e a' w' := by
    intro n
    induction n using Nat.strongRecOn with
    | _ n ih =>
      intro i hi hok μ w a g1 g2 g3 g4 b k cs
      have hround := hr i hok (fun tm' H' => ∃ j, ok j ∧ m j < m i ∧ Wk He tm' H' (S j).1 (S j).2) (fun tm' H' j a b c => ⟨j, a, b, c⟩) w0 μe μ w a g1 g2 g3 g4
      obtain ⟨e, a₁, w₁, hq, harr⟩ := hround b (.inLoop c :: k) cs
      obtain ⟨μ', tm', H', p1, p2, p3, p4, p5⟩ := hq
      cases e with
      | normal =>
        obtain ⟨j, q1, q2, q3⟩ := p5
        obtain ⟨μ2, r1, r2, r3⟩ := q3 w0 μe μ' w₁ a₁.tmps.toList p2 p3 p4
        obtain ⟨e₂, a₂, w₂, hq₂, harr₂⟩ := ih (m j) (hi ▸ q2) j rfl q1 μ2 w₁ a₁ r1 r2 r3 p1 b k cs
        exact ⟨e₂, a₂, w₂, hq₂, .of_steps (Steps.trans harr (.one step_inLoop)) harr₂⟩
      | exit id => exact ⟨_, a₁, w₁, ⟨μ', tm', H', p1, p2, p3, p4, p5⟩, .pass (x := .inLoop c) rfl (fun _ _ => .inl (by simp)) harr⟩
      | goto l => exact ⟨_, a₁, w₁, ⟨μ', tm', H', p1, p2, p3, p4, p5⟩, .pass (x := .inLoop c) rfl (fun _ _ => .inl (by simp)) harr⟩
      | ret => exact ⟨_, a₁, w₁, ⟨μ', tm', H', p1, p2, p3, p4, p5⟩, .pass (x := .inLoop c) rfl (fun _ _ => .inl (by simp)) harr⟩
      | panic ch => exact ⟨_, a₁, w₁, ⟨μ', tm', H', p1, p2, p3, p4, p5⟩, .pass (x := .inLoop c) rfl (fun _ _ => .inl (by simp)) harr⟩
      | outgrown => exact ⟨_, a₁, w₁, ⟨μ', tm', H', p1, p2, p3, p4, p5⟩, .pass (x := .inLoop c) rfl (fun _ _ => .inl (by simp)) harr⟩
  intro b k cs
  obtain ⟨e, a', w', hq, harr⟩ := key _ i0 rfl h0 μ1 w a b1 b2 b3 h4 b k cs
  exact ⟨e, a', w', hq, .of_steps (.one step_loop) harr⟩

theorem AW_region {T : Tab} (hT : TabOk P T) {id : Nat} {l : List Oper} (h : AOps P T l l tm H (Q .normal)) : AW P He (.region id l.toArray false) tm H Q := by
  intro w0 μe μ w a h1 h2 h3 h4
  refine wp_region_list ?_
  rw [List.toList_toArray]
  exact AOps_sound hT h h2 h3 fun tm' H' μ' w' a' q1 q2 q3 q4 q5 => ⟨μ', tm', H', q5.trans h4, h1.trans q2, q3, q4, q1⟩
end
end Go.Proofs.Ytfofkebkcjkjeaa
