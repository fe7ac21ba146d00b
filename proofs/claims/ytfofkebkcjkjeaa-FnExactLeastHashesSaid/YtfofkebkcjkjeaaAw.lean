/- The abstract machine: operations in any order beside those that only make new objects. -/
import Derived.Test.YtfofkebkcjkjeaaAz
namespace Go.Proofs.Ytfofkebkcjkjeaa
open Go.RowKit
set_option linter.unusedSimpArgs false
set_option linter.unusedVariables false
set_option linter.unusedSectionVars false
set_option maxRecDepth 100000

section
variable {H : Hp} {x q : LV} {fo sz n : Nat} {i : Int} {cs : List LV}
theorem live_lt {id ver : Nat} (h : liveO H id ver = true) : id < H.length := by
  unfold liveO at h
  rcases Nat.lt_or_ge id H.length with h' | h'
  · exact h'
  · simp [List.getElem?_eq_none h'] at h
theorem fldP_app (L : Hp) (h : fldP H fo x = some q) : fldP (H ++ L) fo x = some q := by
  cases x <;> simp only [fldP] at h ⊢ <;> try (cases h; done)
  split at h
  · rename_i hl
    rw [liveO_app L (live_lt hl), if_pos hl]; exact h
  · cases h
theorem idxP_app (L : Hp) (h : idxP H sz i x = some q) : idxP (H ++ L) sz i x = some q := by
  cases x <;> simp only [idxP] at h ⊢ <;> try (cases h; done)
  split at h
  · rename_i hl
    rw [liveO_app L (live_lt hl.2.2), if_pos hl]; exact h
  · cases h
theorem arrP_app (L : Hp) (h : arrP H sz n i x = some q) : arrP (H ++ L) sz n i x = some q := by
  cases x <;> simp only [arrP] at h ⊢ <;> try (cases h; done)
  split at h
  · rename_i hl
    rw [liveO_app L (live_lt hl.2.2), if_pos hl]; exact h
  · cases h
theorem hgetP_app (L : Hp) (h : hgetP H x = some q) : hgetP (H ++ L) x = some q := by
  cases x <;> simp only [hgetP] at h ⊢ <;> try (cases h; done)
  rename_i id ver off
  have hl : id < H.length := by
    unfold hget at h
    rcases Nat.lt_or_ge id H.length with h' | h'
    · exact h'
    · simp [List.getElem?_eq_none h'] at h
  rw [hget_app L hl]; exact h
theorem hgetsP_app (L : Hp) (h : hgetsP H n x = some cs) : hgetsP (H ++ L) n x = some cs := by
  cases x <;> simp only [hgetsP] at h ⊢ <;> try (cases h; done)
  rename_i id ver off
  have hl : id < H.length := by
    unfold hgets at h
    rcases Nat.lt_or_ge id H.length with h' | h'
    · exact h'
    · simp [List.getElem?_eq_none h'] at h
  rw [hgets_app L hl]; exact h
end
def quietB : Op → Bool
  | .fieldAddr _ _ _ | .indexAddr _ _ _ | .load _ _ => true
  | op => pureB op
theorem quiet_acall {op : Op} (h : quietB op = true) : acall op = none := by
  by_cases hp : pureB op = true
  · exact pure_acall hp
  cases op <;> first | rfl | exact absurd h hp
theorem quiet_aop {T : Tab} {r : Operand → LV} {H H' : Hp} {x : LV} {op : Op} (h : quietB op = true) (he : aop T r H op = some (x, H')) : H' = H ∧ ∀ L, aop T r (H ++ L) op = some (x, H ++ L) := by
  by_cases hp : pureB op = true
  · obtain ⟨e1, e2⟩ := pure_aop hp he
    exact ⟨e1, fun L => e2 _⟩
  cases op
  case fieldAddr s y f =>
    simp only [aop] at he ⊢
    split at he
    · split at he
      · split at he
        · split at he
          · split at he
            · cases he
            · rename_i h1 _ _ h2 _ _ h3 _ _ h4 h5
              simp only [Option.map_eq_some_iff, Prod.mk.injEq] at he
              obtain ⟨a, g1, rfl, rfl⟩ := he
              refine ⟨rfl, fun L => ?_⟩
              simp only [h1, h2, h3, h4, if_neg h5, fldP_app L g1, Option.map_some]
          · cases he
        · cases he
      · cases he
    · cases he
  case indexAddr t y k =>
    simp only [aop] at he ⊢
    split at he
    · split at he
      · split at he
        · rename_i h1 _ _ h2 _ _ _ _ h3 h4
          simp only [Option.map_eq_some_iff, Prod.mk.injEq] at he
          obtain ⟨a, g1, rfl, rfl⟩ := he
          refine ⟨rfl, fun L => ?_⟩
          simp only [h1, h2, h3, h4, idxP_app L g1, Option.map_some]
        · cases he
      · split at he
        · rename_i h1 _ _ _ h2 _ _ _ _ h3 h4
          simp only [Option.map_eq_some_iff, Prod.mk.injEq] at he
          obtain ⟨a, g1, rfl, rfl⟩ := he
          refine ⟨rfl, fun L => ?_⟩
          simp only [h1, h2, h3, h4, arrP_app L g1, Option.map_some]
        · cases he
      · cases he
    · cases he
  case load t y =>
    simp only [aop] at he ⊢
    split at he
    · rename_i te h1
      split at he
      · rename_i h2
        simp only [Option.map_eq_some_iff, Prod.mk.injEq] at he
        obtain ⟨a, g1, rfl, rfl⟩ := he
        refine ⟨rfl, fun L => ?_⟩
        simp only [h1, h2, if_true, hgetsP_app L g1, Option.map_some]
      · rename_i h2
        simp only [Option.map_eq_some_iff, Prod.mk.injEq] at he
        obtain ⟨a, g1, rfl, rfl⟩ := he
        refine ⟨rfl, fun L => ?_⟩
        simp only [h1, if_neg h2, hgetP_app L g1, Option.map_some]
    · cases he
  all_goals exact absurd h hp

theorem rnB_mapI (σ : Nat → Nat) (k : IntKind) (xs : List Int) : (xs.map (LV.int k)).map (rnB σ) = xs.map (LV.int k) := by rw [List.map_map]; rfl
theorem rnB_mapF (σ : Nat → Nat) (k : FloatKind) (xs : List (Option Nat)) : (xs.map (LV.flt k)).map (rnB σ) = xs.map (LV.flt k) := by rw [List.map_map]; rfl
theorem rnB_mapB (σ : Nat → Nat) (xs : List Bool) : (xs.map LV.bool).map (rnB σ) = xs.map LV.bool := by rw [List.map_map]; rfl
section
variable {P : Program} {T : Tab} {ops : List Oper} {md : Region.Mode}

def YX (T : Tab) (ops : List Oper) (Hs : Hp) (o : Oper) (x : LV) (tm : List LV) : Prop :=
  (awant ops tm o = some true ∧ acall o.op = none ∧ ∀ L : Hp, aop T (ev tm) (Hs ++ L) o.op = some (x, Hs ++ L)) ∨ (awant ops tm o = some false ∧ x = .tup [])
theorem YX.op {Hs : Hp} {o : Oper} {x : LV} {tm : List LV} {L : Hp} {K : List LV → Hp → Prop} (h : YX T ops Hs o x tm) (hk : K (putA tm o.dst x) (Hs ++ L)) : AOp P T ops o tm (Hs ++ L) K := by
  unfold AOp
  rcases h with ⟨h1, h2, h3⟩ | ⟨h1, rfl⟩
  · rw [h1]
    refine And.intro (fun _ => ?_) (fun h => Bool.noConfusion h)
    unfold ADo
    rw [h2]
    simp only [h3 L]
    exact hk
  · rw [h1]
    exact And.intro (fun h => Bool.noConfusion h) (fun _ => hk)
theorem YX.put {Hs : Hp} {oi oj : Oper} {x u : LV} {tm : List LV} (hy : YX T ops Hs oi x tm) (h3 : ∀ d, oj.dst = some d → d ∉ oi.looksAt ops.toArray) : YX T ops Hs oi x (putA tm oj.dst u) := by
  rcases hy with ⟨h1, h2, h4⟩ | ⟨h1, rfl⟩
  · exact Or.inl ⟨(awant_put oi tm oj.dst u h3).trans h1, h2, fun M => by rw [aop_congr oi.op fun z hz => ev_put_op oi tm oj.dst u h3 z hz]; exact h4 _⟩
  · exact Or.inr ⟨(awant_put oi tm oj.dst u h3).trans h1, rfl⟩
theorem YX_of {Hs : Hp} {o : Oper} {tm : List LV} {K : List LV → Hp → Prop} (hp : quietB o.op = true) (h : AOp P T ops o tm Hs K) : ∃ x, YX T ops Hs o x tm ∧ K (putA tm o.dst x) Hs := by
  unfold AOp at h
  split at h
  · rename_i b hw
    cases b
    · exact ⟨.tup [], Or.inr ⟨hw, rfl⟩, h.2 rfl⟩
    · have hd := h.1 rfl
      unfold ADo at hd
      rw [quiet_acall hp] at hd
      simp only at hd
      split at hd
      · rename_i r H' hr
        obtain ⟨rfl, h2⟩ := quiet_aop hp hr
        exact ⟨r, Or.inl ⟨hw, quiet_acall hp, h2⟩, hd⟩
      · exact hd.elim
  · exact h.elim
/-- Operations that only add new objects, all but the last. -/
def AAnyX (P : Program) (T : Tab) (md : Region.Mode) (ops : List Oper) (z : Nat) (Hs : Hp) : Nat → Array Bool → List LV → Hp → (List LV → Hp → Prop) → Prop
  | 0, listed, tm, H, K => Region.ready md ops.toArray listed = [] ∧ K tm H
  | f + 1, listed, tm, H, K => Region.ready md ops.toArray listed ≠ [] ∧ ∀ i ∈ Region.ready md ops.toArray listed, match ops[i]? with
    | some o => AOp P T ops o tm H fun tm' H' => (i = z ∨ ∃ L, H' = Hs ++ L) ∧ AAnyX P T md ops z Hs f (listed.setIfInBounds i true) tm' H' K
    | none => False
def AAllX (P : Program) (T : Tab) (md : Region.Mode) (ops : List Oper) (z : Nat) (Hs : Hp) (f : Nat) (listed : Array Bool) (tm : List LV) (H : Hp) (K : List LV → Hp → Prop) : List Nat → Prop
  | [] => True
  | i :: l => (match ops[i]? with
    | some o => AOp P T ops o tm H fun tm' H' => (i = z ∨ ∃ L, H' = Hs ++ L) ∧ AAnyX P T md ops z Hs f (listed.setIfInBounds i true) tm' H' K
    | none => False) ∧ AAllX P T md ops z Hs f listed tm H K l
theorem AAllX.mem {z f : Nat} {Hs : Hp} {listed : Array Bool} {tm : List LV} {H : Hp} {K : List LV → Hp → Prop} : ∀ {l : List Nat}, AAllX P T md ops z Hs f listed tm H K l → ∀ i ∈ l, match ops[i]? with
    | some o => AOp P T ops o tm H fun tm' H' => (i = z ∨ ∃ L, H' = Hs ++ L) ∧ AAnyX P T md ops z Hs f (listed.setIfInBounds i true) tm' H' K
    | none => False
  | [], _, i, hi => by cases hi
  | j :: l, h, i, hi => by
    rcases List.mem_cons.1 hi with rfl | hi
    · exact h.1
    · exact h.2.mem i hi
theorem AAnyX_leaf {z : Nat} {Hs : Hp} {listed : Array Bool} {tm : List LV} {H : Hp} {K : List LV → Hp → Prop} (hr : Region.ready md ops.toArray listed = []) (h : K tm H) : AAnyX P T md ops z Hs 0 listed tm H K := ⟨hr, h⟩
theorem AAnyX_step {z f : Nat} {Hs : Hp} {listed : Array Bool} {tm : List LV} {H : Hp} {K : List LV → Hp → Prop} (i : Nat) (l : List Nat) (hr : Region.ready md ops.toArray listed = i :: l) (h : AAllX P T md ops z Hs f listed tm H K (i :: l)) : AAnyX P T md ops z Hs (f + 1) listed tm H K :=
  ⟨by rw [hr]; simp, fun j hj => by rw [hr] at hj; exact h.mem j hj⟩
theorem AAllX_cons {z f i : Nat} {Hs : Hp} {l : List Nat} {listed : Array Bool} {tm : List LV} {H : Hp} {K0 : List LV → Hp → Prop} {o : Oper} (ho : ops[i]? = some o)
    (h : ∀ K : List LV → Hp → Prop, (∀ tm' H', (i = z ∨ ∃ L, H' = Hs ++ L) → AAnyX P T md ops z Hs f (listed.setIfInBounds i true) tm' H' K0 → K tm' H') → AOp P T ops o tm H K) (hl : AAllX P T md ops z Hs f listed tm H K0 l) : AAllX P T md ops z Hs f listed tm H K0 (i :: l) :=
  ⟨by rw [ho]; exact h _ fun _ _ h1 h2 => ⟨h1, h2⟩, hl⟩
theorem AAllX_nil {z f : Nat} {Hs : Hp} {listed : Array Bool} {tm : List LV} {H : Hp} {K0 : List LV → Hp → Prop} : AAllX P T md ops z Hs f listed tm H K0 [] := trivial

theorem AOp_put2 {oi oj : Oper} {x : LV} (hap : oi.apart ops.toArray oj = true) {K : List LV → Hp → Prop} {tm : List LV} {H : Hp} (h : AOp P T ops oj (putA tm oi.dst x) H K) :
    AOp P T ops oj tm H fun t H' => ∃ r, t = putA tm oj.dst r ∧ K (putA t oi.dst x) H' := by
  obtain ⟨h1, h2, h3⟩ := Oper.apart_spec hap
  unfold AOp at *
  rw [awant_put oj tm oi.dst x h1] at h
  have he : ∀ y ∈ oj.op.operands, ev (putA tm oi.dst x) y = ev tm y := fun y hy => ev_put_op oj tm oi.dst x h1 y hy
  split at h
  · rename_i b hw
    refine ⟨fun e => ?_, fun e => ?_⟩
    · have hd := h.1 e
      unfold ADo at *
      split at hd
      · rename_i f xs hc
        have hop : ∃ c : Call, oj.op = .call c ∧ (∀ y ∈ xs, y ∈ oj.op.operands) ∧ f ∈ oj.op.operands := by
          unfold acall at hc
          split at hc
          · rename_i c hop
            split at hc
            · rename_i f' hcal
              simp only [Option.some.injEq, Prod.mk.injEq] at hc
              refine ⟨c, hop, fun y hy => ?_, ?_⟩
              · rw [hop]; simp only [Op.operands, Call.operands, Array.mem_append]
                exact Or.inr (by rw [← hc.2] at hy; simpa using hy)
              · rw [hop, ← hc.1]; simp [Op.operands, Call.operands, hcal]
            · cases hc
          · cases hc
        obtain ⟨c, hop, hxs, hf⟩ := hop
        rw [he f hf] at hd
        split at hd
        · rename_i g caps hg
          have hm : xs.map (ev (putA tm oi.dst x)) = xs.map (ev tm) := List.map_congr_left fun y hy => he y (hxs y hy)
          rw [hm] at hd
          exact hd.mono fun r H' hk => ⟨r, rfl, by rw [← putA_comm tm x r h2]; exact hk⟩
        · exact hd.elim
      · rename_i hc
        rw [aop_congr oj.op he] at hd
        split at hd
        · exact ⟨_, rfl, by rw [← putA_comm tm x _ h2]; exact hd⟩
        · exact hd.elim
    · exact ⟨_, rfl, by rw [← putA_comm tm x (.tup []) h2]; exact h.2 e⟩
  · exact h.elim

theorem AAnyX_first {z i : Nat} {Hs : Hp} {oi : Oper} {x : LV} {K : List LV → Hp → Prop} (hi : ops[i]? = some oi) (hz : ∀ oz, ops[z]? = some oz → ∃ e ∈ oz.after, Region.binds md e = true ∧ e.on = i) :
    ∀ (f : Nat) (listed : Array Bool) (tm : List LV) (H : Hp),
      (∀ j oj, ops[j]? = some oj → j ≠ i → listed.getD j true = false → (∀ e ∈ oj.after, Region.binds md e = true → e.on ≠ i) → oi.apart ops.toArray oj = true) →
      i ∈ Region.ready md ops.toArray listed → (∃ L, H = Hs ++ L) → YX T ops Hs oi x tm →
      AAnyX P T md ops z Hs f (listed.setIfInBounds i true) (putA tm oi.dst x) H K → AAnyX P T md ops z Hs (f + 1) listed tm H K := by
  intro f
  induction f with
  | zero =>
    intro listed tm H _ hr hH hy hh
    obtain ⟨L0, rfl⟩ := hH
    refine ⟨fun h => (by rw [h] at hr; cases hr), fun j hj => ?_⟩
    by_cases hji : j = i
    · subst hji; rw [hi]; exact hy.op ⟨Or.inr ⟨L0, rfl⟩, hh⟩
    · have := ready_mono hj hji
      rw [hh.1] at this; cases this
  | succ f ih =>
    intro listed tm H hfree hr hH hy hh
    obtain ⟨L0, rfl⟩ := hH
    have hun := (mem_ready.1 hr).1
    refine ⟨fun h => (by rw [h] at hr; cases hr), fun j hj => ?_⟩
    by_cases hji : j = i
    · subst hji; rw [hi]; exact hy.op ⟨Or.inr ⟨L0, rfl⟩, hh⟩
    · have h1 := hh.2 j (ready_mono hj hji)
      obtain ⟨hjun, oj, hoj, hall⟩ := mem_ready.1 hj
      have hoj' : ops[j]? = some oj := by rw [List.getElem?_toArray] at hoj; exact hoj
      rw [hoj'] at h1 ⊢
      have hnot : ∀ e ∈ oj.after, Region.binds md e = true → e.on ≠ i := fun e he hb heq => by
        have h1 := hall e he hb
        rw [heq, getD_both hun] at h1
        cases h1
      have hap := hfree j oj hoj' hji hjun hnot
      obtain ⟨_, _, h3⟩ := Oper.apart_spec hap
      have h2 := AOp_put2 hap h1
      have hfree' : ∀ k ok, ops[k]? = some ok → k ≠ i → (listed.setIfInBounds j true).getD k true = false →
          (∀ e ∈ ok.after, Region.binds md e = true → e.on ≠ i) → oi.apart ops.toArray ok = true := fun k ok hk hki hun hno => by
        refine hfree k ok hk hki ?_ hno
        by_cases hjk : j = k
        · subst hjk; exact hjun
        · rw [getD_set_ne true hjk] at hun; exact hun
      refine AOp_mono (fun t H' h4 => ?_) h2
      obtain ⟨r, rfl, hext, hX⟩ := h4
      rcases hext with h0 | ⟨L, rfl⟩
      · subst h0
        obtain ⟨e, he1, he2, he3⟩ := hz oj hoj'
        exact absurd he3 (hnot e he1 he2)
      · refine ⟨Or.inr ⟨L, rfl⟩, ih (listed.setIfInBounds j true) _ _ hfree' (ready_mono hr (Ne.symm hji)) ⟨L, rfl⟩ (hy.put h3) ?_⟩
        rw [Array.setIfInBounds_comm _ _ hji]
        exact hX
theorem AAnyX_quiet {z f : Nat} {Hs : Hp} {listed : Array Bool} {tm : List LV} {H : Hp} {K0 : List LV → Hp → Prop} (i : Nat) {o oz : Oper} (ho : ops[i]? = some o) (hp : quietB o.op = true) (hoz : ops[z]? = some oz)
    (hr : (Region.ready md ops.toArray listed).contains i = true) (hf : Region.free md ops.toArray listed i = true) (hz : (oz.after.any fun e => Region.binds md e && e.on == i) = true)
    (hH : ∃ L, H = Hs ++ L) (h : ∀ K : List LV → Hp → Prop, (∀ tm', AAnyX P T md ops z Hs f (listed.setIfInBounds i true) tm' H K0 → K tm' Hs) → AOp P T ops o tm Hs K) : AAnyX P T md ops z Hs (f + 1) listed tm H K0 := by
  obtain ⟨x, h1, h2⟩ := YX_of hp (h (fun tm' _ => AAnyX P T md ops z Hs f (listed.setIfInBounds i true) tm' H K0) fun _ h => h)
  refine AAnyX_first ho (fun oz' hoz' => ?_) f listed tm H (fun j oj hj => Region.free_spec (by rw [List.getElem?_toArray]; exact ho) hf j oj (by rw [List.getElem?_toArray]; exact hj)) (by simpa using hr) hH h1 h2
  rw [hoz] at hoz'; cases hoz'
  rw [Array.any_eq_true'] at hz
  obtain ⟨e, he, hb⟩ := hz
  simp only [Bool.and_eq_true, beq_iff_eq] at hb
  exact ⟨e, he, hb.1, hb.2⟩
theorem AAnyX_any {z : Nat} {Hs : Hp} : ∀ {f : Nat} {listed : Array Bool} {tm : List LV} {H : Hp} {K : List LV → Hp → Prop}, AAnyX P T md ops z Hs f listed tm H K → AAny P T md ops f listed tm H K
  | 0, _, _, _, _, h => h
  | f + 1, listed, tm, H, K, h => ⟨h.1, fun i hi => by
      have := h.2 i hi
      split at this
      · rename_i o ho
        rw [ho]
        exact AOp_mono (fun _ _ hh => AAnyX_any hh.2) this
      · exact this.elim⟩
/-- Operations in any order that make new objects, then one that writes; all come to the same end, but for the order of new objects. -/
theorem AW_treeX (hT : TabOk P T) {He H : Hp} {id : Nat} {tm tm1 : List LV} {H1 : Hp} {Q : Exit → List LV → Hp → Prop} (n z : Nat) (hm : P.follows .mixedOrders = true) (hn : ops.length = n)
    (h : AAnyX P T .any ops z H n (Array.replicate n false) tm H fun tm' H' => Wk He tm' H' tm1 H1) (hq : Q .normal tm1 H1) : AW P He (.region id ops.toArray true) tm H Q :=
  AW_treeW hT n hm hn (AAnyX_any h) hq
end
end Go.Proofs.Ytfofkebkcjkjeaa
