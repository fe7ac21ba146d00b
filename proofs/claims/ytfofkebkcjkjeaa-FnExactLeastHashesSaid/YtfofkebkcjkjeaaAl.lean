/- The abstract machine's operations are sound: the theorem. -/
import Derived.Test.YtfofkebkcjkjeaaAk
namespace Go.Proofs.Ytfofkebkcjkjeaa
open Go.RowKit
set_option linter.unusedSimpArgs false
set_option linter.unusedVariables false
set_option linter.unusedSectionVars false

theorem ORel_map {μ : Nat → Pl} {H : Hp} {r : Operand → LV} {ρ : Operand → Value} (hρ : ∀ x, TR μ H (r x) (ρ x)) (o : Option Operand) : ORel μ H (o.map r) (o.map ρ) := by
  cases o with
  | none => trivial
  | some x => exact hρ x

theorem All2.maps {μ : Nat → Pl} {H : Hp} {r : Operand → LV} {ρ : Operand → Value} (hρ : ∀ x, TR μ H (r x) (ρ x)) : ∀ (l : List Operand), All2 (TR μ H) (l.map r) (l.map ρ)
  | [] => trivial
  | x :: l => ⟨hρ x, All2.maps hρ l⟩

theorem All2.cells {μ : Nat → Pl} {H : Hp} : ∀ {xs : List LV} {vs : List Value}, All2 (TR μ H) xs vs → xs.all LV.isCell = true → All2 (BR μ H) xs vs
  | [], [], _, _ => trivial
  | x :: xs, v :: vs, h, hs => by
    simp only [List.all_cons, Bool.and_eq_true] at hs
    exact ⟨BR_of_TR hs.1 h.1, All2.cells h.2 hs.2⟩
  | [], _ :: _, h, _ => h.elim
  | _ :: _, [], h, _ => h.elim

theorem live_sound {H : Hp} {id ver : Nat} (h : liveO H id ver = true) : ∃ o, H[id]? = some o ∧ o.ver = ver := by
  unfold liveO at h
  split at h
  · rename_i o ho; exact ⟨o, ho, by simpa using h⟩
  · cases h

section
variable {P : Program} {T : Tab} (hT : TabOk P T) {w0 w : World} {μ : Nat → Pl} {H : Hp} (hR : Rep w0 μ H w)
include hT hR

set_option maxHeartbeats 1000000 in
theorem aop_sound {r : Operand → LV} {ρ : Operand → Value} (hρ : ∀ x, TR μ H (r x) (ρ x)) {o : Oper} {x : LV} {H' : Hp} (h : aop T r H o.op = some (x, H')) : Snd P w0 μ H w ((execOp ρ o).run P w) x H' := by
  obtain ⟨dst, op, type, pos, after, guard⟩ := o
  simp only at h
  cases op <;> simp only [aop] at h <;> try (cases h; done)
  case move y => cases h; exact Snd.still hR (by simp [execOp] <;> rfl) (hρ y)
  case assign y => cases h; exact Snd.still hR (by simp [execOp] <;> rfl) (hρ y)
  case pick c a b =>
    have hc := hρ c
    split at h
    · rename_i t ht
      rw [ht] at hc
      have hc' : ρ c = .bool t := hc
      cases h
      cases t
      · exact Snd.still hR (by simp [execOp, hc', asBool] <;> rfl) (hρ b)
      · exact Snd.still hR (by simp [execOp, hc', asBool] <;> rfl) (hρ a)
    · cases h
  case alloc t =>
    split at h
    · rename_i te ht
      cases h
      obtain ⟨w', μ', k1, k2, k3, k4⟩ := run_newVar_zero hT hR ht
      exact ⟨w', μ', Or.inl ⟨_, by simp [execOp, k1], TR.of_BR k4⟩, k2, k3⟩
    · cases h
  case box t y =>
    split at h
    · rename_i hs
      cases h
      obtain ⟨w', μ', k1, k2, k3, k4⟩ := run_box (P := P) (t := t) hR (hρ y) hs
      exact ⟨w', μ', Or.inl ⟨_, by simp [execOp, k1], TR.of_BR k4⟩, k2, k3⟩
    · cases h
  case build t parts =>
    split at h
    case h_2 => cases h
    rename_i te ht
    split at h
    · rename_i fs hfs
      split at h
      · cases h
      rename_i hall
      simp only [Option.map_eq_some_iff, Prod.mk.injEq] at h
      obtain ⟨cs, h1, rfl, rfl⟩ := h
      obtain ⟨v, k1, k2⟩ := build_sound hT (w := w) ht (parts_rel hT hR hρ parts) (Or.inl ⟨fs, hfs, by
        cases hq : (fs.all fun p => (T p.2).isSome) with
        | true => rfl
        | false => rw [hq] at hall; exact absurd rfl hall, h1⟩)
      exact Snd.still hR (by simp [execOp, k1] <;> rfl) k2
    · rename_i n e hfs
      split at h
      case h_2 => cases h
      rename_i ee he
      simp only [Option.map_eq_some_iff, Prod.mk.injEq] at h
      obtain ⟨cs, h1, rfl, rfl⟩ := h
      obtain ⟨v, k1, k2⟩ := build_sound hT (w := w) ht (parts_rel hT hR hρ parts) (Or.inr ⟨n, e, ee, hfs, he, h1⟩)
      exact Snd.still hR (by simp [execOp, k1] <;> rfl) k2
    · cases h
  case buildSlice t len parts =>
    split at h
    case h_2 => cases h
    rename_i e sz by_ zs hs
    split at h
    case h_2 => cases h
    rename_i te ht
    split at h
    case isFalse => cases h
    rename_i hlen
    simp only [Option.map_eq_some_iff, Prod.mk.injEq] at h
    obtain ⟨cs, h1, rfl, rfl⟩ := h
    obtain ⟨w', μ', v, k1, k2, k3, k4⟩ := buildSlice_sound hT hR hs rfl ht hlen (parts_rel hT hR hρ parts) h1
    exact ⟨w', μ', Or.inl ⟨v, by simp [execOp, k1], k4⟩, k2, k3⟩
  case load t a =>
    have ha := hρ a
    split at h
    case h_2 => cases h
    rename_i te ht
    generalize hpt : r a = la at h ha
    have hp : ∃ id ver off, la = .ptr id ver off := by
      cases la <;> simp [hgetsP, hgetP] at h
      exact ⟨_, _, _, rfl⟩
    obtain ⟨id, ver, off, rfl⟩ := hp
    simp only [hgetsP, hgetP] at h
    obtain ⟨rfl, u, k1, k2⟩ := run_loadAt hT hR ht ha h
    exact Snd.still hR (by simp [execOp, k1] <;> rfl) k2
  case store t a y =>
    have ha := hρ a
    split at h
    case h_2 => cases h
    rename_i te ht
    split at h
    case isFalse => cases h
    rename_i hc
    simp only [Option.map_eq_some_iff, Prod.mk.injEq] at h
    obtain ⟨H1, h1, rfl, rfl⟩ := h
    generalize hpt : r a = la at h1 ha
    have hp : ∃ id ver off, la = .ptr id ver off := by
      cases la <;> simp [hputP] at h1
      exact ⟨_, _, _, rfl⟩
    obtain ⟨id, ver, off, rfl⟩ := hp
    simp only [hputP] at h1
    obtain ⟨w', k1, k2, k3⟩ := run_storeAt hT hR ht ha (hρ y) hc.1 hc.2 h1
    exact ⟨w', μ, Or.inr ⟨by simp [execOp, k1], rfl⟩, k2, k3⟩
  case nilCheck y =>
    have hy := hρ y
    split at h
    · rename_i id ver off hp
      cases h
      rw [hp] at hy
      have hy2 := hy
      obtain ⟨o', a, _, _, hv, _⟩ := hy2
      exact Snd.still hR (v := ρ y) (by simp [execOp, hv]) hy
    · rename_i f cs hp
      cases h
      rw [hp] at hy
      have hy2 := hy
      obtain ⟨vs, hv, _⟩ := hy2
      exact Snd.still hR (v := ρ y) (by simp [execOp, hv]) hy
    · cases h
  case binOp op t y z yt =>
    simp only [Option.map_eq_some_iff, Prod.mk.injEq] at h
    obtain ⟨u, h1, rfl, rfl⟩ := h
    obtain ⟨v, n, k0, k1, k2⟩ := abin_sound hT hR (x := y) (y := z) h1 (hρ y) (hρ z)
    refine Snd.quiet hR n (v := v) ?_ k2
    simp [execOp, k0, k1]
  case unOp op t y =>
    simp only [Option.map_eq_some_iff, Prod.mk.injEq] at h
    obtain ⟨u, h1, rfl, rfl⟩ := h
    obtain ⟨v, k1, k2⟩ := run_aun (P := P) (w := w) h1 (hρ y)
    exact Snd.still hR (by simp [execOp, k1] <;> rfl) (TR.of_BR k2)
  case convert s d y =>
    simp only [Option.map_eq_some_iff, Prod.mk.injEq] at h
    obtain ⟨u, h1, rfl, rfl⟩ := h
    obtain ⟨v, n, k1, k2⟩ := run_aconv (w := w) hT h1 (hρ y)
    exact Snd.quiet hR n (v := v) (by simp [execOp, k1]) (TR.of_BR k2)
  case makeFunc fn first caps =>
    split at h
    case h_2 => cases h
    rename_i f
    split at h
    case isFalse => cases h
    rename_i hc
    cases h
    have hf : first = #[] := by
      have := hc.1
      exact Array.eq_empty_of_size_eq_zero this
    subst hf
    refine Snd.still hR (v := .func (.func f) #[] (caps.map ρ)) (by simp [execOp, Instr.makeFunc] <;> rfl) ⟨_, rfl, ?_⟩
    rw [Array.toList_map]
    exact (All2.maps hρ caps.toList).cells hc.2
  case makeSlice t l c =>
    have hl := hρ l
    have hcc := hρ c
    split at h
    case h_2 => cases h
    rename_i e sz by_ zs k1 l' k2 c' hs e1 e2
    rw [e1] at hl
    rw [e2] at hcc
    split at h
    case h_2 => cases h
    rename_i te ht
    unfold amake at h
    split at h
    case isFalse => cases h
    rename_i hc
    cases h
    have v1 : ρ l = .int k1 l' := hl
    have v2 : ρ c = .int k2 c' := hcc
    obtain ⟨w', μ', v, g1, g2, g3, g4⟩ := makeSlice_sound hT hR hs rfl ht k1 k2 l' c' hc.1 hc.2.1 hc.2.2.1 hc.2.2.2
    exact ⟨w', μ', Or.inl ⟨v, by simp [execOp, v1, v2, g1], g4⟩, g2, g3⟩
  case slice t y lo hi mx =>
    simp only [Option.map_eq_some_iff, Prod.mk.injEq] at h
    obtain ⟨u, h1, rfl, rfl⟩ := h
    obtain ⟨v, k1, k2⟩ := aslice_sound hT hR h1 (hρ y) (ORel_map hρ lo) (ORel_map hρ hi) (ORel_map hρ mx)
    exact Snd.still hR (by simp [execOp, k1] <;> rfl) (TR.of_BR k2)
  case fieldAddr s y f =>
    have hy := hρ y
    split at h
    case h_2 => cases h
    rename_i e hs
    split at h
    case h_2 => cases h
    rename_i fs htd
    split at h
    case h_2 => cases h
    rename_i p hf
    split at h
    case h_2 => cases h
    rename_i te ht
    split at h
    case isTrue => cases h
    rename_i hn
    simp only [Option.map_eq_some_iff, Prod.mk.injEq] at h
    obtain ⟨u, h1, rfl, rfl⟩ := h
    generalize hpt : r y = la at h1 hy
    cases la <;> simp only [fldP] at h1 <;> try (cases h1; done)
    rename_i id ver off
    split at h1
    case isFalse => cases h1
    rename_i hlive
    cases h1
    obtain ⟨o, ho, hver⟩ := live_sound hlive
    obtain ⟨o', a, q1, q2, hv, q3⟩ := hy
    rw [ho] at q1; cases q1
    have ha := q3 hver.symm
    subst ha
    have := run_fieldAt hT (w := w) hs htd hf ht hn (ad (μ id) off)
    refine Snd.still hR (v := .pointer (some (ad (μ id) (off + p.1)))) (by simp [execOp, hv, this, ad_add]) ?_
    exact ⟨o, _, ho, q2, rfl, fun _ => rfl⟩
  case field s y f =>
    have hy := hρ y
    split at h
    case h_2 => cases h
    rename_i fs sz by_ zs cs hs hp
    rw [hp] at hy
    split at h
    case h_2 => cases h
    rename_i fo ft hf
    simp only [Option.map_eq_some_iff, Prod.mk.injEq] at h
    obtain ⟨u, h1, rfl, rfl⟩ := h
    obtain ⟨vs, hv, hc⟩ := hy
    obtain ⟨v, k1, k2⟩ := run_field hT (w := w) hs rfl hf h1 hc
    exact Snd.still hR (v := v) (by simp [execOp, hv, k1]) k2
  case indexAddr t y i =>
    have hy := hρ y
    have hi := hρ i
    split at h
    case h_2 => cases h
    rename_i e0 hs
    split at h
    · rename_i e htd
      split at h
      case h_2 => cases h
      rename_i te j ht hj
      simp only [Option.map_eq_some_iff, Prod.mk.injEq] at h
      obtain ⟨u, h1, rfl, rfl⟩ := h
      generalize hpt : r y = la at h1 hy
      generalize hpi : r i = li at hj hi
      cases la <;> simp only [idxP] at h1 <;> try (cases h1; done)
      rename_i id ver off n cap
      split at h1
      case isFalse => cases h1
      rename_i hc
      cases h1
      cases li <;> simp only [aidx] at hj <;> try (cases hj; done)
      rename_i k j'
      cases hj
      obtain ⟨o, ho, hver⟩ := live_sound hc.2.2
      obtain ⟨o', a, c, q1, q2, hv, q3⟩ := hy
      rw [ho] at q1; cases q1
      have vi : ρ i = .int k j := hi
      obtain ⟨p1, p2, _⟩ := q3 hver.symm
      have ha := p2 (by omega)
      subst ha
      have := run_indexAt_slice hT (w := w) hs htd ht (ad (μ id) off) n c k j hc.1 hc.2.1
      refine Snd.still hR (v := .pointer (some (ad (μ id) (off + j.toNat * te.sz)))) (by simp [execOp, hv, vi, this, ad_add]) ?_
      exact ⟨o, _, ho, q2, rfl, fun _ => rfl⟩
    · rename_i n e htd
      split at h
      case h_2 => cases h
      rename_i te j ht hj
      simp only [Option.map_eq_some_iff, Prod.mk.injEq] at h
      obtain ⟨u, h1, rfl, rfl⟩ := h
      generalize hpt : r y = la at h1 hy
      generalize hpi : r i = li at hj hi
      cases la <;> simp only [arrP] at h1 <;> try (cases h1; done)
      rename_i id ver off
      split at h1
      case isFalse => cases h1
      rename_i hc
      cases h1
      cases li <;> simp only [aidx] at hj <;> try (cases hj; done)
      rename_i k j'
      cases hj
      obtain ⟨o, ho, hver⟩ := live_sound hc.2.2
      obtain ⟨o', a, q1, q2, hv, q3⟩ := hy
      rw [ho] at q1; cases q1
      have vi : ρ i = .int k j := hi
      have ha := q3 hver.symm
      subst ha
      have := run_indexAt_arr hT (w := w) hs htd ht (ad (μ id) off) k j hc.1 hc.2.1
      refine Snd.still hR (v := .pointer (some (ad (μ id) (off + j.toNat * te.sz)))) (by simp [execOp, hv, vi, this, ad_add]) ?_
      exact ⟨o, _, ho, q2, rfl, fun _ => rfl⟩
    · cases h
  case index t y i =>
    have hy := hρ y
    have hi := hρ i
    split at h
    case h_2 => cases h
    rename_i n e sz by_ zs cs k j hs hp hj
    rw [hp] at hy
    rw [hj] at hi
    split at h
    case h_2 => cases h
    rename_i te ht
    split at h
    case isFalse => cases h
    rename_i hc
    simp only [Option.map_eq_some_iff, Prod.mk.injEq] at h
    obtain ⟨u, h1, rfl, rfl⟩ := h
    obtain ⟨vs, hv, hcs⟩ := hy
    have vi : ρ i = .int k j := hi
    obtain ⟨v, k1, k2⟩ := run_index_arr hT (w := w) hs rfl ht k j hc.1 hc.2 h1 hcs
    exact Snd.still hR (v := v) (by simp [execOp, hv, vi, k1]) k2
  case extract t i =>
    have ht := hρ t
    split at h
    case h_2 => cases h
    rename_i cs hp
    rw [hp] at ht
    obtain ⟨vs, hv, hc⟩ := ht
    simp only [Option.map_eq_some_iff, Prod.mk.injEq] at h
    obtain ⟨u, h1, rfl, rfl⟩ := h
    obtain ⟨v, k1, k2⟩ := hc.get i u h1
    rw [Array.getElem?_toList] at k1
    exact Snd.still hR (v := v) (by simp [execOp, hv, Instr.extract, k1]) (TR.of_LR k2)
  case call c =>
    obtain ⟨callee, args, argTypes⟩ := c
    cases callee <;> simp only [] at h <;> try (cases h; done)
    rename_i b
    exact abuiltin_sound hT hR hρ h type _
end
end Go.Proofs.Ytfofkebkcjkjeaa
