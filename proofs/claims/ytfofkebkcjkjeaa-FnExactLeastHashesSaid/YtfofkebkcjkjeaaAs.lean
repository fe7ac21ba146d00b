/- The abstract machine: operations in any order; those that touch no memory are done first. -/
import Derived.Test.YtfofkebkcjkjeaaAq
namespace Go.Proofs.Ytfofkebkcjkjeaa
open Go.RowKit
set_option linter.unusedSimpArgs false
set_option linter.unusedVariables false
set_option linter.unusedSectionVars false

def pureB : Op → Bool
  | .move _ | .assign _ | .pick _ _ _ | .nilCheck _ | .binOp _ _ _ _ _ | .unOp _ _ _ | .convert _ _ _ | .extract _ _ => true
  | _ => false
theorem pure_acall {op : Op} (h : pureB op = true) : acall op = none := by
  cases op <;> first | rfl | cases h
theorem pure_aop {T : Tab} {r : Operand → LV} {H H' : Hp} {x : LV} {op : Op} (h : pureB op = true) (he : aop T r H op = some (x, H')) : H' = H ∧ ∀ H2, aop T r H2 op = some (x, H2) := by
  cases op
  case move a => simp only [aop, Option.some.injEq, Prod.mk.injEq] at he ⊢; exact ⟨he.2.symm, fun H2 => ⟨he.1, trivial⟩⟩
  case assign a => simp only [aop, Option.some.injEq, Prod.mk.injEq] at he ⊢; exact ⟨he.2.symm, fun H2 => ⟨he.1, trivial⟩⟩
  case pick a b c =>
    simp only [aop] at he ⊢
    split at he
    · simp only [Option.some.injEq, Prod.mk.injEq] at he ⊢; exact ⟨he.2.symm, fun H2 => ⟨he.1, trivial⟩⟩
    · cases he
  case nilCheck a =>
    simp only [aop] at he ⊢
    split at he
    · simp only [Option.some.injEq, Prod.mk.injEq] at he ⊢; exact ⟨he.2.symm, fun H2 => ⟨he.1, trivial⟩⟩
    · simp only [Option.some.injEq, Prod.mk.injEq] at he ⊢; exact ⟨he.2.symm, fun H2 => ⟨he.1, trivial⟩⟩
    · cases he
  case binOp =>
    simp only [aop, Option.map_eq_some_iff, Prod.mk.injEq] at he ⊢
    obtain ⟨a, h1, h2, h3⟩ := he
    exact ⟨h3.symm, fun H2 => ⟨a, h1, h2, trivial⟩⟩
  case unOp =>
    simp only [aop, Option.map_eq_some_iff, Prod.mk.injEq] at he ⊢
    obtain ⟨a, h1, h2, h3⟩ := he
    exact ⟨h3.symm, fun H2 => ⟨a, h1, h2, trivial⟩⟩
  case convert =>
    simp only [aop, Option.map_eq_some_iff, Prod.mk.injEq] at he ⊢
    obtain ⟨a, h1, h2, h3⟩ := he
    exact ⟨h3.symm, fun H2 => ⟨a, h1, h2, trivial⟩⟩
  case extract =>
    simp only [aop] at he ⊢
    split at he
    · simp only [Option.map_eq_some_iff, Prod.mk.injEq] at he ⊢
      obtain ⟨a, h1, h2, h3⟩ := he
      exact ⟨h3.symm, fun H2 => ⟨a, h1, h2, trivial⟩⟩
    · cases he
  all_goals cases h

section
variable {P : Program} {T : Tab} {ops : List Oper} {md : Region.Mode}

def YP (T : Tab) (ops : List Oper) (o : Oper) (x : LV) (tm : List LV) : Prop :=
  (awant ops tm o = some true ∧ acall o.op = none ∧ ∀ H : Hp, aop T (ev tm) H o.op = some (x, H)) ∨ (awant ops tm o = some false ∧ x = .tup [])
theorem YP.op {o : Oper} {x : LV} {tm : List LV} {H : Hp} {K : List LV → Hp → Prop} (h : YP T ops o x tm) (hk : K (putA tm o.dst x) H) : AOp P T ops o tm H K := by
  unfold AOp
  rcases h with ⟨h1, h2, h3⟩ | ⟨h1, rfl⟩
  · rw [h1]
    refine And.intro (fun _ => ?_) (fun h => Bool.noConfusion h)
    unfold ADo
    rw [h2]
    simp only [h3 H]
    exact hk
  · rw [h1]
    exact And.intro (fun h => Bool.noConfusion h) (fun _ => hk)
theorem YP.put {oi oj : Oper} {x u : LV} {tm : List LV} (hy : YP T ops oi x tm) (h3 : ∀ d, oj.dst = some d → d ∉ oi.looksAt ops.toArray) : YP T ops oi x (putA tm oj.dst u) := by
  rcases hy with ⟨h1, h2, h4⟩ | ⟨h1, rfl⟩
  · exact Or.inl ⟨(awant_put oi tm oj.dst u h3).trans h1, h2, fun H => by rw [aop_congr oi.op fun z hz => ev_put_op oi tm oj.dst u h3 z hz]; exact h4 H⟩
  · exact Or.inr ⟨(awant_put oi tm oj.dst u h3).trans h1, rfl⟩
theorem YP_of {o : Oper} {tm : List LV} {H : Hp} {K : List LV → Hp → Prop} (hp : pureB o.op = true) (h : AOp P T ops o tm H K) : ∃ x, YP T ops o x tm ∧ K (putA tm o.dst x) H := by
  unfold AOp at h
  split at h
  · rename_i b hw
    cases b
    · exact ⟨.tup [], Or.inr ⟨hw, rfl⟩, h.2 rfl⟩
    · have hd := h.1 rfl
      unfold ADo at hd
      rw [pure_acall hp] at hd
      simp only at hd
      split at hd
      · rename_i r H' hr
        obtain ⟨rfl, h2⟩ := pure_aop hp hr
        exact ⟨r, Or.inl ⟨hw, pure_acall hp, h2⟩, hd⟩
      · exact hd.elim
  · exact h.elim
theorem AOp_put {oi oj : Oper} {x : LV} (hap : oi.apart ops.toArray oj = true) {K : List LV → Hp → Prop} {tm : List LV} {H : Hp}
    (hy : YP T ops oi x tm) (h : AOp P T ops oj (putA tm oi.dst x) H K) : AOp P T ops oj tm H fun t H' => YP T ops oi x t ∧ K (putA t oi.dst x) H' := by
  obtain ⟨h1, h2, h3⟩ := Oper.apart_spec hap
  unfold AOp at *
  rw [awant_put oj tm oi.dst x h1] at h
  have he : ∀ y ∈ oj.op.operands, ev (putA tm oi.dst x) y = ev tm y := fun y hy => ev_put_op oj tm oi.dst x h1 y hy
  split at h
  · rename_i b hw
    refine ⟨fun e => ?_, fun e => ?_⟩
    · have hd := h.1 e
      unfold ADo at *
      split at hd
      · rename_i f xs hc
        have hop : ∃ c : Call, oj.op = .call c ∧ (∀ y ∈ xs, y ∈ oj.op.operands) ∧ f ∈ oj.op.operands := by
          unfold acall at hc
          split at hc
          · rename_i c hop
            split at hc
            · rename_i f' hcal
              simp only [Option.some.injEq, Prod.mk.injEq] at hc
              refine ⟨c, hop, fun y hy => ?_, ?_⟩
              · rw [hop]; simp only [Op.operands, Call.operands, Array.mem_append]
                exact Or.inr (by rw [← hc.2] at hy; simpa using hy)
              · rw [hop, ← hc.1]; simp [Op.operands, Call.operands, hcal]
            · cases hc
          · cases hc
        obtain ⟨c, hop, hxs, hf⟩ := hop
        rw [he f hf] at hd
        split at hd
        · rename_i g caps hg
          have hm : xs.map (ev (putA tm oi.dst x)) = xs.map (ev tm) := List.map_congr_left fun y hy => he y (hxs y hy)
          rw [hm] at hd
          exact hd.mono fun r H' hk => ⟨hy.put h3, by rw [← putA_comm tm x r h2]; exact hk⟩
        · exact hd.elim
      · rename_i hc
        rw [aop_congr oj.op he] at hd
        split at hd
        · exact ⟨hy.put h3, by rw [← putA_comm tm x _ h2]; exact hd⟩
        · exact hd.elim
    · refine ⟨hy.put h3, ?_⟩
      rw [← putA_comm tm x (.tup []) h2]; exact h.2 e
  · exact h.elim
theorem AOp_mono {o : Oper} {tm : List LV} {H : Hp} {K K' : List LV → Hp → Prop} (hk : ∀ tm H, K tm H → K' tm H) (h : AOp P T ops o tm H K) : AOp P T ops o tm H K' := by
  unfold AOp at *
  split at h
  · refine ⟨fun e => ?_, fun e => hk _ _ (h.2 e)⟩
    have hd := h.1 e
    unfold ADo at *
    split at hd
    · split at hd
      · exact hd.mono fun r H' hh => hk _ _ hh
      · exact hd.elim
    · split at hd
      · exact hk _ _ hd
      · exact hd.elim
  · exact h.elim
theorem AAny_first {i : Nat} {oi : Oper} {x : LV} {K : List LV → Hp → Prop} (hi : ops[i]? = some oi) :
    ∀ (f : Nat) (listed : Array Bool) (tm : List LV) (H : Hp),
      (∀ j oj, ops[j]? = some oj → j ≠ i → listed.getD j true = false → (∀ e ∈ oj.after, Region.binds md e = true → e.on ≠ i) → oi.apart ops.toArray oj = true) →
      i ∈ Region.ready md ops.toArray listed → YP T ops oi x tm →
      AAny P T md ops f (listed.setIfInBounds i true) (putA tm oi.dst x) H K → AAny P T md ops (f + 1) listed tm H K := by
  intro f
  induction f with
  | zero =>
    intro listed tm H _ hr hy hh
    refine ⟨fun h => (by rw [h] at hr; cases hr), fun j hj => ?_⟩
    by_cases hji : j = i
    · subst hji; rw [hi]; exact hy.op hh
    · have := ready_mono hj hji
      rw [hh.1] at this; cases this
  | succ f ih =>
    intro listed tm H hfree hr hy hh
    have hun := (mem_ready.1 hr).1
    refine ⟨fun h => (by rw [h] at hr; cases hr), fun j hj => ?_⟩
    by_cases hji : j = i
    · subst hji; rw [hi]; exact hy.op hh
    · have h1 := hh.2 j (ready_mono hj hji)
      obtain ⟨hjun, oj, hoj, hall⟩ := mem_ready.1 hj
      have hoj' : ops[j]? = some oj := by rw [List.getElem?_toArray] at hoj; exact hoj
      rw [hoj'] at h1 ⊢
      have hnot : ∀ e ∈ oj.after, Region.binds md e = true → e.on ≠ i := fun e he hb heq => by
        have h1 := hall e he hb
        rw [heq, getD_both hun] at h1
        cases h1
      have h2 := AOp_put (hfree j oj hoj' hji hjun hnot) hy h1
      have hfree' : ∀ k ok, ops[k]? = some ok → k ≠ i → (listed.setIfInBounds j true).getD k true = false →
          (∀ e ∈ ok.after, Region.binds md e = true → e.on ≠ i) → oi.apart ops.toArray ok = true := fun k ok hk hki hun hno => by
        refine hfree k ok hk hki ?_ hno
        by_cases hjk : j = k
        · subst hjk; exact hjun
        · rw [getD_set_ne true hjk] at hun; exact hun
      refine AOp_mono (fun t H' h3 => ih (listed.setIfInBounds j true) t H' hfree' (ready_mono hr (Ne.symm hji)) h3.1 ?_) h2
      rw [Array.setIfInBounds_comm _ _ hji]
      exact h3.2
theorem AAny_pure {f : Nat} {listed : Array Bool} {tm : List LV} {H : Hp} {K0 : List LV → Hp → Prop} (i : Nat) {o : Oper} (ho : ops[i]? = some o) (hp : pureB o.op = true)
    (hr : (Region.ready md ops.toArray listed).contains i = true) (hf : Region.free md ops.toArray listed i = true)
    (h : ∀ K : List LV → Hp → Prop, (∀ tm H, AAny P T md ops f (listed.setIfInBounds i true) tm H K0 → K tm H) → AOp P T ops o tm H K) : AAny P T md ops (f + 1) listed tm H K0 := by
  obtain ⟨x, h1, h2⟩ := YP_of hp (h (fun tm H => AAny P T md ops f (listed.setIfInBounds i true) tm H K0) fun _ _ h => h)
  exact AAny_first ho f listed tm H (fun j oj hj => Region.free_spec (by rw [List.getElem?_toArray]; exact ho) hf j oj (by rw [List.getElem?_toArray]; exact hj)) (by simpa using hr) h1 h2
end
end Go.Proofs.Ytfofkebkcjkjeaa
