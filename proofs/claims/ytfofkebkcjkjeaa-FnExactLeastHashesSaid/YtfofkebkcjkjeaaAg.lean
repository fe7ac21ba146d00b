/- The abstract machine's operations are sound: slices cut, appended to, copied, made. -/
import Derived.Test.YtfofkebkcjkjeaaAf
namespace Go.Proofs.Ytfofkebkcjkjeaa
open Go.RowKit
set_option linter.unusedSimpArgs false
set_option linter.unusedVariables false
set_option linter.unusedSectionVars false

theorem zeros_get (zs : List LV) (n j : Nat) : (zeros zs n)[j]? = if j < n * zs.length then zs[j % zs.length]? else none := by
  induction n generalizing j with
  | zero => simp [zeros]
  | succ n ih =>
    have e : zeros zs (n + 1) = zs ++ zeros zs n := by simp [zeros, List.replicate_succ]
    rw [e, List.getElem?_append]
    by_cases h : j < zs.length
    · rw [if_pos h, if_pos (by rw [Nat.succ_mul]; omega), Nat.mod_eq_of_lt h]
    · rw [if_neg h, ih, Nat.succ_mul]
      have h2 : j % zs.length = (j - zs.length) % zs.length := by
        conv => lhs; rw [show j = (j - zs.length) + zs.length by omega, Nat.add_mod_right]
      rw [h2]
      by_cases h3 : j - zs.length < n * zs.length
      · rw [if_pos h3, if_pos (by omega)]
      · rw [if_neg h3, if_neg (by omega)]

theorem zeros_length (zs : List LV) (n : Nat) : (zeros zs n).length = n * zs.length := by simp [zeros]

theorem made_get (z : Array Value) (n j : Nat) (hj : j < n) : ((Array.range n).map (z[· % z.size]!))[j]? = some z[j % z.size]! := by
  rw [Array.getElem?_map]
  simp [hj]

theorem zeros_rel {μ : Nat → Pl} {H : Hp} {zs : List LV} {z : Array Value} (h : All2 (BR μ H) zs z.toList) (ho : ∀ v ∈ z.toList, v.oneCell' = true) (n : Nat) :
    ∀ (j : Nat) (c : LV), (zeros zs n)[j]? = some c → ∃ v, ((Array.range (n * z.size)).map (z[· % z.size]!))[j]? = some v ∧ v.oneCell' = true ∧ BR μ H c v := by
  intro j c hj
  have hl := h.len
  have hl2 : z.toList.length = z.size := Array.length_toList
  rw [zeros_get] at hj
  split at hj
  · rename_i hlt
    rw [made_get z _ j (by rw [← hl2, ← hl]; exact hlt)]
    obtain ⟨v, k1, k2⟩ := h.get _ _ hj
    have e : z[j % z.size]! = v := by
      rw [← hl2, ← hl]
      rw [Array.getElem?_toList] at k1
      obtain ⟨hlt, e⟩ := Array.getElem?_eq_some_iff.1 k1
      rw [getElem!_pos z _ hlt, e]
    exact ⟨v, by rw [e], ho v (List.mem_of_getElem? k1), k2⟩
  · cases hj

section
variable {P : Program} {T : Tab} (hT : TabOk P T) {w0 w : World} {μ : Nat → Pl} {H : Hp} (hR : Rep w0 μ H w)

theorem run_sliceBound_in (k : IntKind) (i : Int) (y : Nat) (code : BoundsCode) (h0 : 0 ≤ i) (h1 : i ≤ y) : (Instr.sliceBound (.int k i) y code).run P w = .ok i.toNat w := by
  simp [Instr.sliceBound, asIntOf, h0, h1]

theorem asliceB_spec {n d m : Nat} {x : Option LV} {v : Option Value} (h : asliceB n x d = some m) (hx : match x, v with | none, none => True | some a, some b => TR μ H a b | _, _ => False) :
    (x = none ∧ v = none ∧ m = d) ∨ ∃ k i, x = some (.int k i) ∧ v = some (.int k i) ∧ 0 ≤ i ∧ i ≤ n ∧ m = i.toNat := by
  cases x with
  | none =>
    cases v with
    | none => simp only [asliceB, Option.some.injEq] at h; exact Or.inl ⟨rfl, rfl, h.symm⟩
    | some b => exact hx.elim
  | some a =>
    cases v with
    | none => exact hx.elim
    | some b =>
      cases a <;> simp only [asliceB] at h <;> try cases h
      rename_i k i
      split at h
      · rename_i hc
        cases h
        have hv : b = .int k i := hx
        subst hv
        exact Or.inr ⟨k, i, rfl, rfl, hc.1, hc.2, rfl⟩
      · cases h

def ORel (μ : Nat → Pl) (H : Hp) : Option LV → Option Value → Prop
  | none, none => True
  | some a, some b => TR μ H a b
  | _, _ => False

theorem run_sliceBounds {r c n : Nat} (hrc : r ≤ c) (hnr : n ≤ c) {lo hi mx : Option LV} {vlo vhi vmx : Option Value} (h1 : ORel μ H lo vlo) (h2 : ORel μ H hi vhi) (h3 : ORel μ H mx vmx) {m h l : Nat}
    (e1 : asliceB r mx r = some m) (e2 : asliceB m hi n = some h) (e3 : asliceB h lo 0 = some l) (e4 : (mx.isSome && hi.isNone) = false) :
    ∃ m', (Instr.sliceBounds true n c vlo vhi vmx).run P w = .ok (l, h, m') w ∧ l ≤ h ∧ h ≤ m' ∧ m' ≤ c ∧ (mx.isSome = true → m' = m) ∧ (mx.isSome = false → m' = c) := by
  rcases asliceB_spec (μ := μ) (H := H) (v := vmx) e1 (by cases mx <;> cases vmx <;> exact h3) with ⟨rfl, rfl, rfl⟩ | ⟨k1, i1, rfl, rfl, g1, g2, rfl⟩
  · rcases asliceB_spec (μ := μ) (H := H) (v := vhi) e2 (by cases hi <;> cases vhi <;> exact h2) with ⟨rfl, rfl, rfl⟩ | ⟨k2, i2, rfl, rfl, g3, g4, rfl⟩
    · rcases asliceB_spec (μ := μ) (H := H) (v := vlo) e3 (by cases lo <;> cases vlo <;> exact h1) with ⟨rfl, rfl, rfl⟩ | ⟨k3, i3, rfl, rfl, g5, g6, rfl⟩
      · exact ⟨c, by simp [Instr.sliceBounds], by omega, hnr, Nat.le_refl _, by simp, by simp⟩
      · have b3 := fun code => run_sliceBound_in (P := P) (w := w) k3 i3 _ code g5 g6
        exact ⟨c, by simp [Instr.sliceBounds, b3], by omega, hnr, Nat.le_refl _, by simp, by simp⟩
    · have g4' : i2 ≤ (c : Int) := by omega
      rcases asliceB_spec (μ := μ) (H := H) (v := vlo) e3 (by cases lo <;> cases vlo <;> exact h1) with ⟨rfl, rfl, rfl⟩ | ⟨k3, i3, rfl, rfl, g5, g6, rfl⟩
      · have b2 := fun code => run_sliceBound_in (P := P) (w := w) k2 i2 _ code g3 g4'
        exact ⟨c, by simp [Instr.sliceBounds, b2], by omega, by omega, Nat.le_refl _, by simp, by simp⟩
      · have b2 := fun code => run_sliceBound_in (P := P) (w := w) k2 i2 _ code g3 g4'
        have b3 := fun code => run_sliceBound_in (P := P) (w := w) k3 i3 _ code g5 g6
        exact ⟨c, by simp [Instr.sliceBounds, b2, b3], by omega, by omega, Nat.le_refl _, by simp, by simp⟩
  · have g2' : i1 ≤ (c : Int) := by omega
    rcases asliceB_spec (μ := μ) (H := H) (v := vhi) e2 (by cases hi <;> cases vhi <;> exact h2) with ⟨rfl, rfl, rfl⟩ | ⟨k2, i2, rfl, rfl, g3, g4, rfl⟩
    · simp at e4
    · rcases asliceB_spec (μ := μ) (H := H) (v := vlo) e3 (by cases lo <;> cases vlo <;> exact h1) with ⟨rfl, rfl, rfl⟩ | ⟨k3, i3, rfl, rfl, g5, g6, rfl⟩
      · have b1 := fun code => run_sliceBound_in (P := P) (w := w) k1 i1 _ code g1 g2'
        have b2 := fun code => run_sliceBound_in (P := P) (w := w) k2 i2 _ code g3 g4
        exact ⟨i1.toNat, by simp [Instr.sliceBounds, b1, b2], by omega, by omega, by omega, by simp, by simp⟩
      · have b1 := fun code => run_sliceBound_in (P := P) (w := w) k1 i1 _ code g1 g2'
        have b2 := fun code => run_sliceBound_in (P := P) (w := w) k2 i2 _ code g3 g4
        have b3 := fun code => run_sliceBound_in (P := P) (w := w) k3 i3 _ code g5 g6
        exact ⟨i1.toNat, by simp [Instr.sliceBounds, b1, b2, b3], by omega, by omega, by omega, by simp, by simp⟩

include hT

theorem run_slc {t e : TypeId} {et te : TE} (hs : T t = some et) (htd : et.td = .slice e) (ht : T e = some te) (a : Option Addr) (n c : Nat) {vlo vhi vmx : Option Value} {l h m : Nat}
    (hb : (Instr.sliceBounds true n c vlo vhi vmx).run P w = .ok (l, h, m) w) :
    (Instr.sliceAt t (.slice a n c) vlo vhi vmx).run P w = .ok (.slice (if m = l then a else a.map (·.add (l * te.sz))) (h - l) (m - l)) w := by
  obtain ⟨d, h1, h2⟩ := tab_und hT hs
  rw [htd] at h2
  have hd : d = .slice e := h2
  subst hd
  have hsz := run_siz (w := w) hT ht
  simp [Instr.sliceAt, Instr.slice, run_underlying h1, hsz, hb]

include hR

theorem aslice_sound {t : TypeId} {x y : LV} {lo hi mx : Option LV} {v : Value} {vlo vhi vmx : Option Value} (h : aslice T H t x lo hi mx = some y) (hv : TR μ H x v) (h1 : ORel μ H lo vlo) (h2 : ORel μ H hi vhi) (h3 : ORel μ H mx vmx) :
    ∃ u, (Instr.sliceAt t v vlo vhi vmx).run P w = .ok u w ∧ BR μ H y u := by
  unfold aslice at h
  split at h
  · rename_i e sz by_ zs hs
    split at h
    · rename_i te ht
      unfold asliceS at h
      split at h
      · rename_i id ver off n cap
        split at h
        · cases h
        · rename_i o ho
          by_cases hver : o.ver ≠ ver
          · rw [if_pos hver] at h; cases h
          rw [if_neg hver] at h
          by_cases hsz : o.sz ≠ te.sz
          · rw [if_pos hsz] at h; cases h
          rw [if_neg hsz] at h
          have hver' : ver = o.ver := by simpa using Eq.symm (Decidable.not_not.1 hver)
          have hsz' : o.sz = te.sz := Decidable.not_not.1 hsz
          split at h
          · cases h
          rename_i m em
          split at h
          · cases h
          rename_i hh eh
          split at h
          · cases h
          rename_i l el
          by_cases hbad : (mx.isSome && hi.isNone) = true
          · rw [if_pos hbad] at h; cases h
          rw [if_neg hbad] at h
          have hbad' : (mx.isSome && hi.isNone) = false := (Bool.not_eq_true _).mp hbad
          obtain ⟨o', a, c, k1, k2, rfl, k3⟩ := (hv : BR μ H (.sl id ver off n cap) v)
          rw [ho] at k1; cases k1
          obtain ⟨g1, g2, g3, g4⟩ := k3 hver'
          have hroom : roomOf o off n cap ≤ c := by
            unfold roomOf
            cases cap with
            | some k => simp only; have := g3 k rfl; omega
            | none =>
              simp only
              split
              · rename_i hc
                have hsize := (g4 hc.1).1 rfl
                obtain ⟨_, b3, _⟩ := hR.rw id o ho hc.1
                refine Nat.max_le.2 ⟨g1, ?_⟩
                have : (o.cs.length - off) ≤ c * o.sz := by omega
                calc (o.cs.length - off) / o.sz ≤ (c * o.sz) / o.sz := Nat.div_le_div_right this
                  _ = c := Nat.mul_div_cancel _ hc.2.2
              · exact g1
          obtain ⟨m', q1, q2, q3, q4, q5, q6⟩ := run_sliceBounds (P := P) (w := w) hroom g1 h1 h2 h3 em eh el hbad'
          refine ⟨_, run_slc hT hs rfl ht a n c q1, ?_⟩
          cases h
          have hdist : l * te.sz + (m' - l) * te.sz = m' * te.sz := by rw [← Nat.add_mul]; congr 1; omega
          have hmc : m' * te.sz ≤ c * te.sz := Nat.mul_le_mul_right _ q4
          refine ⟨o, (if m' = l then a else a.map (·.add (l * te.sz))), m' - l, ho, k2, rfl, fun _ => ⟨by omega, fun hpos => ?_, fun k hk => ?_, fun hro => ⟨fun hn => ?_, ?_⟩⟩⟩
          · have hne : ¬ m' = l := by omega
            rw [if_neg hne, g2 (by omega), Option.map_some, ad_add]
          · cases hm : mx.isSome
            · rw [hm] at hk
              simp only [Bool.false_eq_true, if_false] at hk
              cases cap with
              | none => cases hk
              | some k0 =>
                simp only [Option.map_some, Option.some.injEq] at hk
                have := g3 k0 rfl
                have := q6 hm
                omega
            · rw [hm] at hk
              simp only [if_true, Option.some.injEq] at hk
              have := q5 hm
              omega
          · cases hm : mx.isSome
            · rw [hm] at hn
              simp only [Bool.false_eq_true, if_false] at hn
              cases cap with
              | some k0 => cases hn
              | none =>
                have e1 := (g4 hro).1 rfl
                have e2 := q6 hm
                rw [hsz'] at e1 ⊢
                subst e2
                omega
            · rw [hm] at hn
              simp at hn
          · have e1 := (g4 hro).2
            rw [hsz'] at e1 ⊢
            omega
      · obtain ⟨a, rfl⟩ := (hv : BR μ H .nils v)
        split at h
        · rename_i m hh l em eh el
          by_cases hbad : (mx.isSome && hi.isNone) = true
          · rw [if_pos hbad] at h; cases h
          rw [if_neg hbad] at h
          cases h
          have m0 : m = 0 := by
            rcases asliceB_spec (μ := μ) (H := H) (v := vmx) em (by cases mx <;> cases vmx <;> exact h3) with ⟨_, _, rfl⟩ | ⟨_, i, _, _, _, _, rfl⟩
            · rfl
            · omega
          have h0 : hh = 0 := by
            rcases asliceB_spec (μ := μ) (H := H) (v := vhi) eh (by cases hi <;> cases vhi <;> exact h2) with ⟨_, _, rfl⟩ | ⟨_, i, _, _, _, _, rfl⟩
            · rfl
            · omega
          have l0 : l = 0 := by
            rcases asliceB_spec (μ := μ) (H := H) (v := vlo) el (by cases lo <;> cases vlo <;> exact h1) with ⟨_, _, rfl⟩ | ⟨_, i, _, _, _, _, rfl⟩
            · rfl
            · omega
          subst m0
          subst h0
          subst l0
          obtain ⟨m', q1, q2, q3, q4, q5, q6⟩ := run_sliceBounds (P := P) (w := w) (r := 0) (c := 0) (n := 0) (Nat.le_refl _) (Nat.le_refl _) h1 h2 h3 em eh el ((Bool.not_eq_true _).mp hbad)
          refine ⟨_, run_slc hT hs rfl ht a 0 0 q1, ?_⟩
          have e1 : m' = 0 := by omega
          subst e1
          exact ⟨_, rfl⟩
        · cases h
      · obtain ⟨a, c, rfl⟩ := (hv : BR μ H .emp v)
        split at h
        · rename_i m hh l em eh el
          by_cases hbad : (mx.isSome && hi.isNone) = true
          · rw [if_pos hbad] at h; cases h
          rw [if_neg hbad] at h
          cases h
          have m0 : m = 0 := by
            rcases asliceB_spec (μ := μ) (H := H) (v := vmx) em (by cases mx <;> cases vmx <;> exact h3) with ⟨_, _, rfl⟩ | ⟨_, i, _, _, _, _, rfl⟩
            · rfl
            · omega
          have h0 : hh = 0 := by
            rcases asliceB_spec (μ := μ) (H := H) (v := vhi) eh (by cases hi <;> cases vhi <;> exact h2) with ⟨_, _, rfl⟩ | ⟨_, i, _, _, _, _, rfl⟩
            · rfl
            · omega
          have l0 : l = 0 := by
            rcases asliceB_spec (μ := μ) (H := H) (v := vlo) el (by cases lo <;> cases vlo <;> exact h1) with ⟨_, _, rfl⟩ | ⟨_, i, _, _, _, _, rfl⟩
            · rfl
            · omega
          subst m0
          subst h0
          subst l0
          obtain ⟨m', q1, q2, q3, q4, q5, q6⟩ := run_sliceBounds (P := P) (w := w) (r := 0) (c := c) (n := 0) (Nat.zero_le _) (Nat.zero_le _) h1 h2 h3 em eh el ((Bool.not_eq_true _).mp hbad)
          refine ⟨_, run_slc hT hs rfl ht a 0 c q1, ?_⟩
          cases hm : mx.isSome
          · exact ⟨_, _, rfl⟩
          · have := q5 hm
            subst this
            exact ⟨_, rfl⟩
        · cases h
      · cases h
    · cases h
  · cases h
end
end Go.Proofs.Ytfofkebkcjkjeaa
