/- The abstract machine: the whole function; states told more weakly. -/
import Derived.Test.YtfofkebkcjkjeaaAm
namespace Go.Proofs.Ytfofkebkcjkjeaa
open Go.RowKit
set_option linter.unusedSimpArgs false
set_option linter.unusedVariables false
set_option linter.unusedSectionVars false

/-! Slots forgotten. -/
def JL : List LV → List LV → Prop
  | [], [] => True
  | a :: us, b :: vs => (b = .junk ∨ a = b) ∧ JL us vs
  | _, _ => False

theorem JL.rel {μ : Nat → Pl} {H : Hp} : ∀ {us vs : List LV} {ws : List Value}, JL us vs → All2 (TR μ H) us ws → All2 (TR μ H) vs ws
  | [], [], [], _, _ => trivial
  | a :: us, b :: vs, w :: ws, h, k => ⟨by rcases h.1 with rfl | rfl; exact trivial; exact k.1, JL.rel h.2 k.2⟩
  | [], _ :: _, _, h, _ => h.elim
  | _ :: _, [], _, h, _ => h.elim
  | [], [], _ :: _, _, k => k.elim
  | _ :: _, _ :: _, [], _, k => k.elim

theorem JL.refl : ∀ (us : List LV), JL us us
  | [] => trivial
  | a :: us => ⟨Or.inr rfl, JL.refl us⟩

theorem Wk.junk {He : Hp} {tm tm' : List LV} {H : Hp} (h : JL tm tm') : Wk He tm H tm' H := fun w0 μe μ w vs h1 h2 h3 => ⟨μ, h1, h2, h.rel h3⟩

/-! Objects renamed, or let go. -/
def renB (σ : Nat → Option Nat) : LV → LV
  | .ptr id ver off => match σ id with
    | some j => .ptr j ver off
    | none => .junk
  | .sl id ver off n cap => match σ id with
    | some j => .sl j ver off n cap
    | none => .junk
  | x => x
def renL (σ : Nat → Option Nat) : LV → LV
  | .agg cs => .agg (cs.map (renB σ))
  | .fn f cs => .fn f (cs.map (renB σ))
  | x => renB σ x
def renT (σ : Nat → Option Nat) : LV → LV
  | .tup cs => .tup (cs.map (renL σ))
  | x => renL σ x
def renO (σ : Nat → Option Nat) (o : AO) : AO := { o with cs := o.cs.map (renB σ) }

structure Ren (σ : Nat → Option Nat) (H H' : Hp) : Prop where
  src : ∀ (j : Nat) (o' : AO), H'[j]? = some o' → ∃ (i : Nat) (o : AO), σ i = some j ∧ H[i]? = some o ∧ o' = renO σ o
  inj : ∀ i i' j, σ i = some j → σ i' = some j → i = i'
  lt : ∀ (i j : Nat) (o : AO), σ i = some j → H[i]? = some o → j < H'.length

open Classical in
noncomputable def renMu (σ : Nat → Option Nat) (μ : Nat → Pl) (j : Nat) : Pl := if h : ∃ i, σ i = some j then μ (Classical.choose h) else ⟨0, 0, 0⟩

theorem renMu_at {σ : Nat → Option Nat} (hinj : ∀ i i' j, σ i = some j → σ i' = some j → i = i') (μ : Nat → Pl) {i j : Nat} (h : σ i = some j) : renMu σ μ j = μ i := by
  unfold renMu
  have he : ∃ i, σ i = some j := ⟨i, h⟩
  rw [dif_pos he]
  rw [hinj _ _ _ (Classical.choose_spec he) h]

theorem Ren.at {σ : Nat → Option Nat} {H H' : Hp} (h : Ren σ H H') {i j : Nat} {o : AO} (hs : σ i = some j) (ho : H[i]? = some o) : H'[j]? = some (renO σ o) := by
  have hl := h.lt i j o hs ho
  obtain ⟨i', o', h1, h2, h3⟩ := h.src j H'[j] (by simp [hl])
  have e := h.inj _ _ _ hs h1
  subst e
  rw [ho] at h2; cases h2
  rw [← h3]; simp [hl]

theorem BR.ren {σ : Nat → Option Nat} {H H' : Hp} (h : Ren σ H H') {μ : Nat → Pl} {x : LV} {v : Value} (hx : BR μ H x v) : BR (renMu σ μ) H' (renB σ x) v := by
  cases x with
  | ptr id ver off =>
    obtain ⟨o, a, h1, h2, h3, h4⟩ := hx
    simp only [renB]
    split
    · rename_i j hj
      exact ⟨_, a, h.at hj h1, h2, h3, fun e => by rw [renMu_at h.inj μ hj]; exact h4 e⟩
    · trivial
  | sl id ver off n cap =>
    obtain ⟨o, a, c, h1, h2, h3, h4⟩ := hx
    simp only [renB]
    split
    · rename_i j hj
      refine ⟨_, a, c, h.at hj h1, h2, h3, fun e => ?_⟩
      rw [renMu_at h.inj μ hj]; exact h4 e
    · trivial
  | _ => exact hx

theorem LR.ren {σ : Nat → Option Nat} {H H' : Hp} (h : Ren σ H H') {μ : Nat → Pl} {x : LV} {v : Value} (hx : LR μ H x v) : LR (renMu σ μ) H' (renL σ x) v := by
  cases x with
  | agg cs => obtain ⟨vs, h1, h2⟩ := hx; exact ⟨vs, h1, All2.map_left _ (h2.mono fun _ _ k => BR.ren h k)⟩
  | fn f cs => obtain ⟨vs, h1, h2⟩ := hx; exact ⟨vs, h1, All2.map_left _ (h2.mono fun _ _ k => BR.ren h k)⟩
  | tup cs => exact hx.elim
  | junk => exact LR.of_BR (BR.ren (x := .junk) h hx)
  | bool b => exact LR.of_BR (BR.ren (x := .bool b) h hx)
  | int k n => exact LR.of_BR (BR.ren (x := .int k n) h hx)
  | flt k o => exact LR.of_BR (BR.ren (x := .flt k o) h hx)
  | nils => exact LR.of_BR (BR.ren (x := .nils) h hx)
  | emp => exact LR.of_BR (BR.ren (x := .emp) h hx)
  | ptr a b c => exact LR.of_BR (BR.ren (x := .ptr a b c) h hx)
  | sl a b c d e => exact LR.of_BR (BR.ren (x := .sl a b c d e) h hx)

theorem TR.ren {σ : Nat → Option Nat} {H H' : Hp} (h : Ren σ H H') {μ : Nat → Pl} {x : LV} {v : Value} (hx : TR μ H x v) : TR (renMu σ μ) H' (renT σ x) v := by
  cases x with
  | tup cs => obtain ⟨vs, h1, h2⟩ := hx; exact ⟨vs, h1, All2.map_left _ (h2.mono fun _ _ k => LR.ren h k)⟩
  | junk => exact TR.of_LR (LR.ren (x := .junk) h hx)
  | bool b => exact TR.of_LR (LR.ren (x := .bool b) h hx)
  | int k n => exact TR.of_LR (LR.ren (x := .int k n) h hx)
  | flt k o => exact TR.of_LR (LR.ren (x := .flt k o) h hx)
  | nils => exact TR.of_LR (LR.ren (x := .nils) h hx)
  | emp => exact TR.of_LR (LR.ren (x := .emp) h hx)
  | ptr a b c => exact TR.of_LR (LR.ren (x := .ptr a b c) h hx)
  | sl a b c d e => exact TR.of_LR (LR.ren (x := .sl a b c d e) h hx)
  | agg cs => exact TR.of_LR (LR.ren (x := .agg cs) h hx)
  | fn f cs => exact TR.of_LR (LR.ren (x := .fn f cs) h hx)

theorem Wk.ren {He : Hp} {tm : List LV} {H H' : Hp} (σ : Nat → Option Nat) (h : Ren σ H H') (hid : ∀ i, i < He.length → σ i = some i) : Wk He tm H (tm.map (renT σ)) H' := by
  intro w0 μe μ w vs hx hR hv
  refine ⟨renMu σ μ, ?_, ⟨hR.bel, ?_, ?_, ?_, ?_⟩, All2.map_left _ (hv.mono fun _ _ k => TR.ren h k)⟩
  · intro i o ho
    obtain ⟨o1, h1, h2, h3, h4, h5, h6⟩ := hx i o ho
    have hi : i < He.length := by
      rcases Nat.lt_or_ge i He.length with h | h
      · exact h
      · simp [List.getElem?_eq_none h] at ho
    exact ⟨_, h.at (hid i hi) h1, h2, h3, h4, h5, fun e => by rw [renMu_at h.inj μ (hid i hi)]; exact h6 e⟩
  · intro j o' ho' k c hc
    obtain ⟨i, o, h1, h2, rfl⟩ := h.src j o' ho'
    simp only [renO, List.getElem?_map, Option.map_eq_some_iff] at hc
    obtain ⟨c0, hc0, rfl⟩ := hc
    obtain ⟨v, k1, k2, k3⟩ := hR.cell i o h2 k c0 hc0
    exact ⟨v, by rw [renMu_at h.inj μ h1]; exact k1, k2, BR.ren h k3⟩
  · intro j o' ho' hro
    obtain ⟨i, o, h1, h2, rfl⟩ := h.src j o' ho'
    rw [renMu_at h.inj μ h1]
    rcases hR.ro i o h2 hro with h0 | h0
    · exact Or.inl (by simp [renO, h0])
    · exact Or.inr h0
  · intro j o' ho' hro
    obtain ⟨i, o, h1, h2, rfl⟩ := h.src j o' ho'
    rw [renMu_at h.inj μ h1]
    simpa [renO] using hR.rw i o h2 hro
  · intro j j' o' p' ho' hp' hro hro' hzi hzj he
    obtain ⟨i, o, h1, h2, rfl⟩ := h.src j o' ho'
    obtain ⟨i', p, g1, g2, rfl⟩ := h.src j' p' hp'
    rw [renMu_at h.inj μ h1, renMu_at h.inj μ g1] at he
    rw [renMu_at h.inj μ h1] at hzi
    rw [renMu_at h.inj μ g1] at hzj
    have := hR.dj i i' o p h2 g2 hro hro' hzi hzj he
    subst this
    rw [h1] at g1
    exact Option.some.inj g1

/-! What refers to nothing behind 'n'. -/
def bnd (n : Nat) : LV → Prop
  | .ptr id _ _ => id < n
  | .sl id _ _ _ _ => id < n
  | _ => True
def Closed (H : Hp) : Prop := ∀ (i : Nat) (o : AO), H[i]? = some o → ∀ c ∈ o.cs, bnd H.length c

theorem bnd_of_BR {μ : Nat → Pl} {H : Hp} {x : LV} {v : Value} (h : BR μ H x v) : bnd H.length x := by
  cases x <;> try trivial
  case ptr id ver off =>
    obtain ⟨o, a, h1, _⟩ := h
    rcases Nat.lt_or_ge id H.length with h | h
    · exact h
    · simp [List.getElem?_eq_none h] at h1
  case sl id ver off n cap =>
    obtain ⟨o, a, c, h1, _⟩ := h
    rcases Nat.lt_or_ge id H.length with h | h
    · exact h
    · simp [List.getElem?_eq_none h] at h1

theorem Rep.closed {w0 w : World} {μ : Nat → Pl} {H : Hp} (h : Rep w0 μ H w) : Closed H := by
  intro i o ho c hc
  obtain ⟨j, hj, e⟩ := List.getElem_of_mem hc
  obtain ⟨v, _, _, k⟩ := h.cell i o ho j c (by rw [← e]; simp [hj])
  exact bnd_of_BR k

/-- Objects kept: the first n, and those behind them that are listed. -/
def keepσ (n : Nat) (js : List Nat) (i : Nat) : Option Nat := if i < n then some i else (js.idxOf? (i - n)).map (· + n)

theorem renB_keep {n : Nat} {js : List Nat} {c : LV} (h : bnd n c) : renB (keepσ n js) c = c := by
  cases c <;> try rfl
  case ptr id ver off => simp only [bnd] at h; simp [renB, keepσ, h]
  case sl id ver off m cap => simp only [bnd] at h; simp [renB, keepσ, h]

theorem idxOf?_some {js : List Nat} {a k : Nat} (h : js.idxOf? a = some k) : js[k]? = some a := by
  induction js generalizing k with
  | nil => simp at h
  | cons x js ih =>
    rw [List.idxOf?_cons] at h
    split at h
    · rename_i e
      simp at h e
      subst h; subst e; rfl
    · simp only [Option.map_eq_some_iff] at h
      obtain ⟨k', h1, rfl⟩ := h
      simpa using ih h1

theorem idxOf?_get {js : List Nat} (hn : js.Nodup) {a k : Nat} (h : js[k]? = some a) : js.idxOf? a = some k := by
  induction js generalizing k with
  | nil => simp at h
  | cons x js ih =>
    rw [List.idxOf?_cons]
    cases k with
    | zero => simp at h; simp [h]
    | succ k =>
      simp only [List.getElem?_cons_succ] at h
      have hne : ¬ (x == a) = true := by
        intro e
        have e' : x = a := by simpa using e
        subst e'
        exact (List.nodup_cons.1 hn).1 (List.mem_of_getElem? h)
      rw [if_neg hne, ih (List.nodup_cons.1 hn).2 h]
      rfl

theorem Ren.keep {H1 K : Hp} {js : List Nat} (hn : js.Nodup) (hj : ∀ j ∈ js, j < K.length) (hc : ∀ (i : Nat) (o : AO), H1[i]? = some o → ∀ c ∈ o.cs, bnd H1.length c) :
    Ren (keepσ H1.length js) (H1 ++ K) (H1 ++ js.map fun j => renO (keepσ H1.length js) (K.getD j ⟨0, true, 0, 0, []⟩)) := by
  have hren : ∀ (i : Nat) (o : AO), H1[i]? = some o → renO (keepσ H1.length js) o = o := by
    intro i o ho
    have : o.cs.map (renB (keepσ H1.length js)) = o.cs := by
      conv => rhs; rw [← List.map_id o.cs]
      exact List.map_congr_left fun c hcc => renB_keep (hc i o ho c hcc)
    unfold renO
    rw [this]
  refine ⟨?_, ?_, ?_⟩
  · intro j o' ho'
    rcases Nat.lt_or_ge j H1.length with h | h
    · rw [List.getElem?_append_left h] at ho'
      exact ⟨j, o', by simp [keepσ, h], by rw [List.getElem?_append_left h]; exact ho', (hren j o' ho').symm⟩
    · rw [List.getElem?_append_right h, List.getElem?_map, Option.map_eq_some_iff] at ho'
      obtain ⟨a, ha, rfl⟩ := ho'
      have hal : a < K.length := hj a (List.mem_of_getElem? ha)
      refine ⟨H1.length + a, K[a], ?_, by simp [hal], by simp [hal]⟩
      simp only [keepσ]
      rw [if_neg (by omega), Nat.add_sub_cancel_left, idxOf?_get hn ha]
      simp; omega
  · intro i i' j h h'
    simp only [keepσ] at h h'
    split at h
    · split at h'
      · simp at h h'; omega
      · simp only [Option.map_eq_some_iff] at h'
        obtain ⟨k, _, rfl⟩ := h'
        simp at h; omega
    · split at h'
      · simp only [Option.map_eq_some_iff] at h
        obtain ⟨k, _, rfl⟩ := h
        simp at h'; omega
      · simp only [Option.map_eq_some_iff] at h h'
        obtain ⟨k, h1, rfl⟩ := h
        obtain ⟨k', h2, e⟩ := h'
        have : k' = k := by omega
        subst this
        have e1 := idxOf?_some h1
        have e2 := idxOf?_some h2
        rw [e1] at e2
        have := Option.some.inj e2
        omega
  · intro i j o h ho
    simp only [keepσ] at h
    split at h
    · simp at h; simp; omega
    · simp only [Option.map_eq_some_iff] at h
      obtain ⟨k, h1, rfl⟩ := h
      have := idxOf?_some h1
      have hk : k < js.length := by
        rcases Nat.lt_or_ge k js.length with h | h
        · exact h
        · simp [List.getElem?_eq_none h] at this
      simp; omega

/-- Behind the heap 'H1' only what is listed is kept. -/
theorem Wk.keep {He H1 K : Hp} {tm : List LV} (js : List Nat) (hl : He.length ≤ H1.length) (hn : js.Nodup) (hj : ∀ j ∈ js, j < K.length) (hc : ∀ (i : Nat) (o : AO), H1[i]? = some o → ∀ c ∈ o.cs, bnd H1.length c) :
    Wk He tm (H1 ++ K) (tm.map (renT (keepσ H1.length js))) (H1 ++ js.map fun j => renO (keepσ H1.length js) (K.getD j ⟨0, true, 0, 0, []⟩)) :=
  Wk.ren _ (Ren.keep hn hj hc) fun i hi => by simp [keepσ]; omega

/-! Results, the whole function. -/
def aresL (T : Tab) (tm : List LV) (H : Hp) : List ResultVar → Option (List LV)
  | [] => some []
  | .tmp t :: rs => match tm.getD t .junk with
    | .tup _ => none
    | x => (aresL T tm H rs).map (x :: ·)
  | .cell a t :: rs => match T t, tm.getD a .junk with
    | some te, .ptr id ver off => match (if te.td.agg then (hgets H id ver off te.sz).map LV.agg else hget H id ver off) with
      | some x => match x with
        | .tup _ => none
        | x => (aresL T tm H rs).map (x :: ·)
      | none => none
    | _, _ => none
def resA (T : Tab) (tm : List LV) (H : Hp) (rs : List ResultVar) : Option LV := match aresL T tm H rs with
  | some [x] => some x
  | some xs => some (.tup xs)
  | none => none

theorem LR_of_TR {μ : Nat → Pl} {H : Hp} {x : LV} {v : Value} (h : TR μ H x v) (hn : ∀ cs, x ≠ .tup cs) : LR μ H x v := by
  cases x <;> first | exact h | exact absurd rfl (hn _)

def resF (tmps : Array Value) : ResultVar → Sem Value
  | .tmp t => pure (tmps.getD t undef)
  | .cell a t => do loadVar t (← asAddr (tmps.getD a undef))

theorem results_eq (fn : Func) (tmps : Array Value) : results fn tmps = (do
    let vs ← fn.results.mapM (resF tmps)
    pure (if h : vs.size = 1 then vs[0] else .tuple vs)) := by
  unfold results
  congr 1

section
variable {P : Program} {T : Tab} (hT : TabOk P T)
include hT

theorem aresL_sound {w0 w : World} {μ : Nat → Pl} {H : Hp} (hR : Rep w0 μ H w) {tm : List LV} {a : Act} (ha : All2 (TR μ H) tm a.tmps.toList) : ∀ {rs : List ResultVar} {xs : List LV}, aresL T tm H rs = some xs →
    ∃ vs, (rs.mapM (resF a.tmps)).run P w = .ok vs w ∧ All2 (LR μ H) xs vs
  | [], xs, h => by
    simp only [aresL, Option.some.injEq] at h
    subst h
    exact ⟨[], rfl, trivial⟩
  | .tmp t :: rs, xs, h => by
    simp only [aresL] at h
    split at h
    · cases h
    · rename_i hnt
      simp only [Option.map_eq_some_iff] at h
      obtain ⟨ys, h1, rfl⟩ := h
      obtain ⟨vs, k1, k2⟩ := aresL_sound hR ha h1
      have := TR_ev ha (.tmp t)
      refine ⟨a.tmps.getD t undef :: vs, ?_, LR_of_TR this (fun cs e => hnt cs e), k2⟩
      rw [List.mapM_cons]
      simp [resF, k1]
  | .cell x t :: rs, xs, h => by
    simp only [aresL] at h
    split at h
    · rename_i te id ver off ht hp
      split at h
      · rename_i y hy
        split at h
        · cases h
        · rename_i hnt
          simp only [Option.map_eq_some_iff] at h
          obtain ⟨ys, h1, rfl⟩ := h
          obtain ⟨vs, k1, k2⟩ := aresL_sound hR ha h1
          have hpv := TR_ev ha (.tmp x)
          have hpe : ev tm (.tmp x) = .ptr id ver off := hp
          rw [hpe] at hpv
          have hld : (if te.td.agg then (hgets H id ver off te.sz).map fun cs => (LV.agg cs, H) else (hget H id ver off).map (·, H)) = some (y, H) := by
            by_cases hag : te.td.agg = true
            · rw [if_pos hag] at hy ⊢
              simp only [Option.map_eq_some_iff] at hy ⊢
              obtain ⟨cs, e1, e2⟩ := hy
              exact ⟨cs, e1, by rw [e2]⟩
            · rw [if_neg hag] at hy ⊢
              rw [hy]; rfl
          obtain ⟨_, u, g1, g2⟩ := run_loadAt hT hR ht hpv hld
          obtain ⟨o, ad', _, _, hv, _⟩ := hpv
          have hv' : a.tmps.getD x undef = .pointer (some ad') := hv
          have g1' : (loadVar t ad').run P w = .ok u w := by
            have hv2 : a.eval (.tmp x) = .pointer (some ad') := hv
            rw [hv2] at g1
            simpa [Instr.loadAt, Instr.sureAddr] using g1
          refine ⟨u :: vs, ?_, LR_of_TR g2 (fun cs e => hnt cs e), k2⟩
          rw [List.mapM_cons]
          have e1 : (resF a.tmps (.cell x t)).run P w = .ok u w := by simp only [resF]; rw [hv']; simpa [asAddr] using g1'
          simp [e1, k1]
      · cases h
    · cases h

theorem resA_sound {w0 w : World} {μ : Nat → Pl} {H : Hp} (hR : Rep w0 μ H w) {tm : List LV} {a : Act} (ha : All2 (TR μ H) tm a.tmps.toList) {fn : Func} {r : LV} (h : resA T tm H fn.results.toList = some r) :
    ∃ v, (results fn a.tmps).run P w = .ok v w ∧ TR μ H r v := by
  unfold resA at h
  have hrun : ∀ vs : List Value, (fn.results.toList.mapM (resF a.tmps)).run P w = .ok vs w →
      (results fn a.tmps).run P w = .ok (if h : vs.toArray.size = 1 then vs.toArray[0] else .tuple vs.toArray) w := by
    intro vs hvs
    rw [results_eq, Sem.run_bind, Array.mapM_eq_mapM_toList, Sem.run_map, hvs]
    rfl
  split at h
  · rename_i x hx
    cases h
    obtain ⟨vs, k1, k2⟩ := aresL_sound hT hR ha hx
    match vs, k2 with
    | [v], k2 => exact ⟨v, hrun _ k1, TR.of_LR k2.1⟩
  · rename_i xs hne hx
    cases h
    obtain ⟨vs, k1, k2⟩ := aresL_sound hT hR ha hx
    have hl := k2.len
    have hn1 : ¬ vs.toArray.size = 1 := by
      intro e
      have e1 : xs.length = 1 := by simpa [hl] using e
      match xs, e1 with
      | [x], _ => exact hne x rfl
    refine ⟨.tuple vs.toArray, ?_, vs.toArray, rfl, by simpa using k2⟩
    rw [hrun _ k1, dif_neg hn1]
  · cases h

/-- What is to be shown at the end of a body. -/
def EndA (T : Tab) (He : Hp) (rs : List ResultVar) (Q : LV → Hp → Prop) (e : Exit) (tm : List LV) (H : Hp) : Prop :=
  (e = .normal ∨ e = .ret) ∧ ∃ r0 r H', resA T tm H rs = some r0 ∧ Wk He [r0] H [r] H' ∧ Q r H'

theorem FunH_body {g : FuncId} {fn : Func} {c : Code} {nt : Nat} {args : List LV} {H : Hp} {Q : LV → Hp → Prop} (hf : P.funcs[g]? = some fn) (hb : fn.body = some c) (hn : (fn.name == "runtime.NumGoroutine") = false) (hnt : fn.ntmps = nt)
    (h : Closed H → (∀ x ∈ args, ∀ y, x = y → bnd H.length y) → AW P H c (args ++ List.replicate (nt - args.length) .junk) H (EndA T H fn.results.toList Q)) : FunH P g args H Q := by
  intro w0 μ w cargs hR ha
  have hen : (callFunc g cargs).run P w = .ok (.enter g cargs) w := enter_of hf hn hb cargs w
  rw [hen]
  have hlen : args.length = cargs.size := by have := ha.len; rwa [Array.length_toList] at this
  refine calls_of_wp hf hb (wp_mono (h hR.closed ?_ w0 μ μ w _ (Ext.refl _ _) hR ?_ rfl) ?_)
  · intro x hx y e
    subst e
    obtain ⟨i, hi, e⟩ := List.getElem_of_mem hx
    obtain ⟨v, _, k⟩ := ha.get i x (by rw [← e]; simp [hi])
    cases x <;> first | trivial | exact bnd_of_BR k
  · rw [Array.toList_append]
    refine ha.app ?_
    rw [hnt, hlen, Array.toList_replicate]
    refine All2.of_get (by simp) fun i a b h1 _ => ?_
    rw [List.getElem?_replicate] at h1
    split at h1 <;> cases h1
    trivial
  · rintro e a w' ⟨μ', tm, H', p1, p2, p3, p4, he, r0, r, H'', q1, q2, q3⟩
    obtain ⟨v, k1, k2⟩ := resA_sound hT p3 p4 q1
    obtain ⟨μ2, g1, g2, g3⟩ := q2 w0 μ μ' w' [v] p2 p3 ⟨k2, trivial⟩
    have hfin : ∃ v, (results fn a.tmps).run P w' = .ok v w' ∧ ∃ v', Ending.returned v = .returned v' ∧ Comes1 P w0 μ H Q v' w' := ⟨v, k1, v, rfl, r, μ2, H'', g2, g3.1, g1, q3⟩
    rcases he with rfl | rfl
    · exact ⟨p1, hfin⟩
    · exact ⟨p1, hfin⟩
end
end Go.Proofs.Ytfofkebkcjkjeaa
