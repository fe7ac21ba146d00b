/- The abstract machine: operations in any order, each order walked. -/
import Derived.Test.YtfofkebkcjkjeaaAp
namespace Go.Proofs.Ytfofkebkcjkjeaa
open Go.RowKit
set_option linter.unusedSimpArgs false
set_option linter.unusedVariables false
set_option linter.unusedSectionVars false

section
variable {P : Program} {T : Tab} {ops : List Oper} {md : Region.Mode}

def AAny (P : Program) (T : Tab) (md : Region.Mode) (ops : List Oper) : Nat → Array Bool → List LV → Hp → (List LV → Hp → Prop) → Prop
  | 0, listed, tm, H, K => Region.ready md ops.toArray listed = [] ∧ K tm H
  | f + 1, listed, tm, H, K => Region.ready md ops.toArray listed ≠ [] ∧ ∀ i ∈ Region.ready md ops.toArray listed, match ops[i]? with
    | some o => AOp P T ops o tm H fun tm H => AAny P T md ops f (listed.setIfInBounds i true) tm H K
    | none => False
def AAll (P : Program) (T : Tab) (md : Region.Mode) (ops : List Oper) (f : Nat) (listed : Array Bool) (tm : List LV) (H : Hp) (K : List LV → Hp → Prop) : List Nat → Prop
  | [] => True
  | i :: l => (match ops[i]? with
    | some o => AOp P T ops o tm H fun tm H => AAny P T md ops f (listed.setIfInBounds i true) tm H K
    | none => False) ∧ AAll P T md ops f listed tm H K l
theorem AAll.mem {f : Nat} {listed : Array Bool} {tm : List LV} {H : Hp} {K : List LV → Hp → Prop} : ∀ {l : List Nat}, AAll P T md ops f listed tm H K l → ∀ i ∈ l, match ops[i]? with
    | some o => AOp P T ops o tm H fun tm H => AAny P T md ops f (listed.setIfInBounds i true) tm H K
    | none => False
  | [], _, i, hi => by cases hi
  | j :: l, h, i, hi => by
    rcases List.mem_cons.1 hi with rfl | hi
    · exact h.1
    · exact h.2.mem i hi
theorem AAny_leaf {listed : Array Bool} {tm : List LV} {H : Hp} {K : List LV → Hp → Prop} (hr : Region.ready md ops.toArray listed = []) (h : K tm H) : AAny P T md ops 0 listed tm H K := ⟨hr, h⟩
theorem AAny_step {f : Nat} {listed : Array Bool} {tm : List LV} {H : Hp} {K : List LV → Hp → Prop} (i : Nat) (l : List Nat) (hr : Region.ready md ops.toArray listed = i :: l) (h : AAll P T md ops f listed tm H K (i :: l)) : AAny P T md ops (f + 1) listed tm H K :=
  ⟨by rw [hr]; simp, fun j hj => by rw [hr] at hj; exact h.mem j hj⟩
theorem AAll_cons {f i : Nat} {l : List Nat} {listed : Array Bool} {tm : List LV} {H : Hp} {K0 : List LV → Hp → Prop} {o : Oper} (ho : ops[i]? = some o)
    (h : ∀ K : List LV → Hp → Prop, (∀ tm H, AAny P T md ops f (listed.setIfInBounds i true) tm H K0 → K tm H) → AOp P T ops o tm H K) (hl : AAll P T md ops f listed tm H K0 l) : AAll P T md ops f listed tm H K0 (i :: l) :=
  ⟨by rw [ho]; exact h _ fun _ _ h => h, hl⟩
theorem AAll_nil {f : Nat} {listed : Array Bool} {tm : List LV} {H : Hp} {K0 : List LV → Hp → Prop} : AAll P T md ops f listed tm H K0 [] := trivial

variable (hT : TabOk P T)
include hT
theorem AAny_sound {w0 : World} {Q' : Exit → Act → World → Prop} {K : List LV → Hp → Prop} {μ0 : Nat → Pl} {H0 : Hp} {d0 : List Deferred}
    (hK : ∀ tm H μ w a, K tm H → Ext μ0 H0 μ H → Rep w0 μ H w → All2 (TR μ H) tm a.tmps.toList → a.defers = d0 → Q' .normal a w) :
    ∀ (f : Nat) (listed : Array Bool) (tm : List LV) (H : Hp) (μ : Nat → Pl) (w : World) (a : Act), AAny P T md ops f listed tm H K → Ext μ0 H0 μ H → Rep w0 μ H w → All2 (TR μ H) tm a.tmps.toList → a.defers = d0 → wpAny P md ops.toArray Q' f listed a w
  | 0, listed, tm, H, μ, w, a, h, hx, hR, ha, hd => ⟨h.1, hK _ _ _ _ _ h.2 hx hR ha hd⟩
  | f + 1, listed, tm, H, μ, w, a, h, hx, hR, ha, hd => by
    refine ⟨fun h0 => absurd h0 h.1, fun i hi => ?_⟩
    have hi' := h.2 i hi
    unfold wpOp
    rw [List.getElem?_toArray]
    split at hi'
    · rename_i o ho
      rw [ho]
      simp only
      unfold AOp at hi'
      split at hi'
      · rename_i b hw
        rw [awant_sound ha hw]
        cases b
        · simp only [Bool.false_eq_true, if_false]
          exact AAny_sound hK f _ _ _ μ w _ (hi'.2 rfl) hx hR (put_rel (v := undef) ha o.dst (show TR μ H (.tup []) undef from ⟨#[], rfl, trivial⟩)) ((put_defers _ _ _).trans hd)
        · simp only [if_true]
          exact Or.inl (ADo_sound hT (hi'.1 rfl) hR ha fun tm' H' μ' w' a' hk hx' hR' ha' hd' => AAny_sound hK f _ tm' H' μ' w' a' hk (hx.trans hx') hR' ha' (hd'.trans hd))
      · exact hi'.elim
    · exact hi'.elim

/-- Operations in any order, all of which come to the same end. -/
theorem AW_tree {He H : Hp} {id : Nat} {tm tm1 : List LV} {H1 : Hp} {Q : Exit → List LV → Hp → Prop} (n : Nat) (hm : P.follows .mixedOrders = true) (hn : ops.length = n)
    (h : AAny P T .any ops n (Array.replicate n false) tm H fun tm' H' => tm' = tm1 ∧ H' = H1) (hq : Q .normal tm1 H1) : AW P He (.region id ops.toArray true) tm H Q := by
  subst hn
  intro w0 μe μ w a h1 h2 h3 h4
  refine wp_region_any hm ?_
  have := AAny_sound hT (μ0 := μ) (H0 := H) (d0 := a.defers) (Q' := Post P w0 μe He Q) (fun tm' H' μ' w' a' hk hx hR ha hd => by
    obtain ⟨rfl, rfl⟩ := hk
    exact ⟨μ', tm', H', hd.trans h4, h1.trans hx, hR, ha, hq⟩) ops.length _ tm H μ _ a h (Ext.refl _ _) (h2.drewN 1) h3 rfl
  have e : ops.toArray.size = ops.length := by simp
  rw [e]
  exact this
end
end Go.Proofs.Ytfofkebkcjkjeaa
