/- slices.Insert of one element into an own row, in the abstract machine. -/
import Derived.Test.YtkkcfbpgcekmjaaIa
import Derived.Test.YtkkcfbpgcekmjaaZn
namespace Go.Proofs.Ytkkcfbpgcekmjaa
open Go.RowKit Go.Lib
set_option linter.unusedSimpArgs false
set_option linter.unusedVariables false
set_option maxRecDepth 100000

theorem setCell_heap (w : World) (b o : Nat) (v : Value) {cur : Array Value} {el : TypeId} {fz : Nat × Nat} (hb : w.heap[b]? = some (.cells cur el fz)) :
    (w.setCell ⟨b, o, none⟩ v).heap[b]? = some (.cells (cur.setIfInBounds o v) el fz) ∧ (∀ k, k ≠ b → (w.setCell ⟨b, o, none⟩ v).heap[k]? = w.heap[k]?) := by
  refine ⟨?_, fun k hk => ?_⟩
  · unfold World.setCell
    simp only [Array.getElem?_modify, if_pos, hb]
    rfl
  · unfold World.setCell
    simp only [Array.getElem?_modify, if_neg (Ne.symm hk)]
theorem setCells_heap (b : Nat) : ∀ (vs : List Value) (o : Nat) (w : World) {cur : Array Value} {el : TypeId} {fz : Nat × Nat}, w.heap[b]? = some (.cells cur el fz) → o + vs.length ≤ cur.size →
    ∃ cur', (w.setCells b o vs).heap[b]? = some (.cells cur' el fz) ∧ cur'.size = cur.size ∧ (∀ j, cur'[j]? = if o ≤ j ∧ j < o + vs.length then vs[j - o]? else cur[j]?) ∧
      (∀ k, k ≠ b → (w.setCells b o vs).heap[k]? = w.heap[k]?) ∧ (w.setCells b o vs).heap.size = w.heap.size ∧ (w.setCells b o vs).os = w.os ∧ (w.setCells b o vs).tape = w.tape ∧ (w.setCells b o vs).output = w.output
  | [], o, w, cur, el, fz, hb, hl => ⟨cur, hb, rfl, fun j => (if_neg (by simp only [List.length_nil]; omega)).symm, fun _ _ => rfl, rfl, rfl, rfl, rfl⟩
  | v :: vs, o, w, cur, el, fz, hb, hl => by
    obtain ⟨h1, h2⟩ := setCell_heap w b o v hb
    simp only [List.length_cons] at hl
    obtain ⟨cur', k1, k2, k3, k4, k5, k6, k7, k8⟩ := setCells_heap b vs (o + 1) _ h1 (by simp; omega)
    refine ⟨cur', k1, by rw [k2]; simp, fun j => ?_, fun k hk => (k4 k hk).trans (h2 k hk), k5.trans (by simp [World.setCell]), k6, k7, k8⟩
    rw [k3, Array.getElem?_setIfInBounds, List.length_cons]
    by_cases hj : j = o
    · subst hj
      rw [if_neg (by omega), if_pos rfl, if_pos (by omega), if_pos (by omega), Nat.sub_self]; rfl
    · by_cases hin : o + 1 ≤ j ∧ j < o + 1 + vs.length
      · rw [if_pos hin, if_pos (by omega)]
        obtain ⟨t, ht⟩ : ∃ t, j - o = t + 1 := ⟨j - o - 1, by omega⟩
        rw [ht, List.getElem?_cons_succ]
        congr 1
        omega
      · rw [if_neg hin, if_neg (Ne.symm hj), if_neg (by omega)]
theorem insL_get {α : Type} (us : List α) (u : α) (i j : Nat) (h : i ≤ us.length) : (us.take i ++ u :: us.drop i)[j]? = if j < i then us[j]? else if j = i then some u else us[j - 1]? := by
  have hl : (us.take i).length = i := by simp; omega
  by_cases h1 : j < i
  · rw [if_pos h1, List.getElem?_append_left (by omega), List.getElem?_take, if_pos h1]
  · rw [if_neg h1, List.getElem?_append_right (by omega), hl]
    by_cases h2 : j = i
    · subst h2; rw [if_pos rfl, Nat.sub_self]; rfl
    · rw [if_neg h2]
      obtain ⟨t, ht⟩ : ∃ t, j - i = t + 1 := ⟨j - i - 1, by omega⟩
      rw [ht, List.getElem?_cons_succ, List.getElem?_drop]
      congr 1
      omega
theorem All2.ins {α β : Type} {R : α → β → Prop} {xs : List α} {us : List β} {x : α} {u : β} (i : Nat) (h : All2 R xs us) (hx : R x u) : All2 R (xs.take i ++ x :: xs.drop i) (us.take i ++ u :: us.drop i) := by
  have hd : ∀ (i : Nat) {xs : List α} {us : List β}, All2 R xs us → All2 R (xs.drop i) (us.drop i) := by
    intro i
    induction i with
    | zero => intro xs us h; exact h
    | succ i ih =>
      intro xs us h
      cases xs <;> cases us
      · exact trivial
      · exact h.elim
      · exact h.elim
      · exact ih h.2
  exact (h.take i).app ⟨hx, hd i h⟩
/-- A row with an element more, in its own block or in a new one. -/
theorem Rep.inserted {w0 w w' : World} {μ : Nat → Pl} {H : Hp} (hR : Rep w0 μ H w) {id ver el i n : Nat} {xs : List LV} {x : LV} {us : List Value} {u : Value} (ho : H[id]? = some ⟨ver, false, el, 1, xs⟩) (hn : xs.length = n) (hi : i ≤ n)
    (hu : All2 (BR μ H) xs us) (hx : BR μ H x u) (h1 : ∀ v ∈ us, v.oneCell' = true) (h2 : u.oneCell' = true) (p : Pl) (hnew : (p.b = (μ id).b ∧ p.size = (μ id).size) ∨ w.heap.size ≤ p.b) (hoff : p.off = 0) (hl : n + 1 ≤ p.size)
    (hbel : Below w0.heap.size w0 w') (hother : ∀ k, k < w.heap.size → (k ≠ (μ id).b ∨ (μ id).size = 0) → w'.heap[k]? = w.heap[k]?)
    {cur : Array Value} (hc : w'.heap[p.b]? = some (.cells cur el (0, 0))) (hs : cur.size = p.size) (hg : ∀ j, j < n + 1 → cur[j]? = (us.take i ++ u :: us.drop i)[j]?) :
    Rep w0 (fun k => if k = id then p else μ k) (H.set id ⟨ver + 1, false, el, 1, xs.take i ++ x :: xs.drop i⟩) w' ∧ Ext μ H (fun k => if k = id then p else μ k) (H.set id ⟨ver + 1, false, el, 1, xs.take i ++ x :: xs.drop i⟩) ∧
      TR (fun k => if k = id then p else μ k) (H.set id ⟨ver + 1, false, el, 1, xs.take i ++ x :: xs.drop i⟩) (.sl id (ver + 1) 0 (n + 1) none) (.slice (some ⟨p.b, 0, none⟩) (n + 1) p.size) := by
  have hlen : (xs.take i ++ x :: xs.drop i).length = n + 1 := by simp; omega
  have hid : id < H.length := by
    rcases Nat.lt_or_ge id H.length with h' | h'
    · exact h'
    · rw [List.getElem?_eq_none h'] at ho; cases ho
  have hext : Ext μ H (fun k => if k = id then p else μ k) (H.set id ⟨ver + 1, false, el, 1, xs.take i ++ x :: xs.drop i⟩) := by
    intro k q hq
    by_cases e : k = id
    · subst e
      rw [ho] at hq; cases hq
      exact ⟨_, List.getElem?_set_self hid, Nat.le_succ _, rfl, rfl, rfl, fun h => absurd h (by simp)⟩
    · exact ⟨q, (List.getElem?_set_ne (Ne.symm e)).trans hq, Nat.le_refl _, rfl, rfl, rfl, fun _ => by simp [e]⟩
  have hA : All2 (BR (fun k => if k = id then p else μ k) (H.set id ⟨ver + 1, false, el, 1, xs.take i ++ x :: xs.drop i⟩)) (xs.take i ++ x :: xs.drop i) (us.take i ++ u :: us.drop i) :=
    All2.ins i (hu.mono fun _ _ => BR.ext hext) (BR.ext hext hx)
  have h1' : ∀ v ∈ us.take i ++ u :: us.drop i, v.oneCell' = true := by
    intro v hv
    rcases List.mem_append.1 hv with h | h
    · exact h1 v (List.mem_of_mem_take h)
    · rcases List.mem_cons.1 h with rfl | h
      · exact h2
      · exact h1 v (List.mem_of_mem_drop h)
  obtain ⟨r1, r2⟩ := hR.turn (o' := ⟨ver + 1, false, el, 1, xs.take i ++ x :: xs.drop i⟩) ho rfl rfl (by simp) rfl rfl p (fun h => by simp at h) (Or.inr hbel) hother hnew hoff (by simp only [hlen]; exact hl)
    (Or.inr ⟨cur, hc, hs, fun j c hj => by
      have hj' : j < n + 1 := by
        rcases Nat.lt_or_ge j (n + 1) with h | h
        · exact h
        · rw [List.getElem?_eq_none (by rw [hlen]; exact h)] at hj; cases hj
      obtain ⟨v, e1, e2⟩ := hA.get j c hj
      exact ⟨v, (hg j hj').trans e1, h1' v (List.mem_of_getElem? e1), e2⟩⟩)
  refine ⟨r1, r2, TR.of_BR ⟨⟨ver + 1, false, el, 1, xs.take i ++ x :: xs.drop i⟩, _, _, List.getElem?_set_self hid, Nat.le_refl _, rfl, fun _ => ⟨hl, fun _ => by simp [ad, hoff], (by intro k hk; cases hk), fun _ => ⟨fun _ => by simp, by simp⟩⟩⟩⟩
set_option maxHeartbeats 4000000 in
theorem Insert_float32_c (id ver n i vid vver vel : Nat) (xs : List LV) (x : LV) (H : Hp) (ho : H[id]? = some ⟨ver, false, 37, 1, xs⟩) (hv : H[vid]? = some ⟨vver, false, vel, 1, [x]⟩) (hne : id ≠ vid) (hn : xs.length = n) (hi : i ≤ n) (hl : n ≤ 1048576) :
    FunH Try.prog 122 [.sl id ver 0 n none, .int .i64 i, .sl vid vver 0 1 none] H fun r H' => r = .sl id (ver + 1) 0 (n + 1) none ∧ H' = H.set id ⟨ver + 1, false, 37, 1, xs.take i ++ x :: xs.drop i⟩ := by
  intro w0 μ w cargs hR ha
  obtain ⟨v, iv, u, rfl⟩ : ∃ v iv u, cargs = #[v, iv, u] := by
    have := ha.len
    obtain ⟨l⟩ := cargs
    match l, this with
    | [v, iv, u], _ => exact ⟨v, iv, u, rfl⟩
  obtain ⟨⟨o, a, c, g1, g2, rfl, g3⟩, hiv, ⟨o2, a2, c2, q1, q2, rfl, q3⟩, _⟩ := ha
  have hiv' : iv = .int .i64 i := hiv
  subst hiv'
  rw [ho] at g1; cases g1
  rw [hv] at q1; cases q1
  obtain ⟨g6, g4, _, g7⟩ := g3 rfl
  obtain ⟨q6, q4, _, q7⟩ := q3 rfl
  have g5 := (g7 rfl).1 rfl
  have q5 := (q7 rfl).1 rfl
  clear g3 q3 g7 q7
  simp only [Nat.zero_add, Nat.mul_one] at g5 q5
  have hzv : (μ vid).size ≠ 0 := by omega
  obtain ⟨b1, b2, b3, curv, b4, b5⟩ := hR.real hv rfl hzv
  have ea2 : a2 = some ⟨(μ vid).b, 0, none⟩ := by rw [q4 (by omega)]; simp [ad, b2]
  subst ea2
  obtain ⟨uv, s1, s2, s3, s4⟩ := seg_sound hR hv 0 1 (by simp)
  obtain ⟨u0, rfl⟩ : ∃ u0, uv = [u0] := by
    match uv, s1 with
    | [u0], _ => exact ⟨u0, rfl⟩
  have hx : BR μ H x u0 := s3.1
  have hu1 := s4 u0 (by simp)
  have hvs : ∀ j w1, [u0][j]? = some w1 → w.cell? ⟨(μ vid).b, 0 + j, none⟩ = some w1 := fun j w1 hj => by
    have := s2 j w1 hj
    rw [ad_add] at this
    simpa [ad, b2] using this
  obtain ⟨us, t1, t2, t3, t4⟩ := seg_sound hR ho 0 n (by simp [hn])
  have t5 : All2 (BR μ H) xs us := by simpa [List.take_of_length_le (Nat.le_of_eq hn)] using t3
  clear t3
  have hen : (callFunc 122 #[.slice a n c, .int .i64 i, .slice (some ⟨(μ vid).b, 0, none⟩) 1 c2]).run Try.prog w = .ok (.enter 122 #[.slice a n c, .int .i64 i, .slice (some ⟨(μ vid).b, 0, none⟩) 1 c2]) w := enter_of Try.func122 (by kernel_rfl) rfl _ w
  rw [hen]
  show Calls Try.prog 122 #[.slice a n c, .int .i64 i, .slice (some ⟨(μ vid).b, 0, none⟩) 1 c2] w _

  have hGn : n + 1 ≤ grownCap w (n + 1) c 37 := grownCap_ge w _ _ _
  have hzs : ∀ m, (Builtin.zeroCells (Value.float .f32 0).cells m).size = m := fun m => by simp [Builtin.zeroCells, Value.cells]
  rcases Nat.lt_or_ge c (n + 1) with hroom | hroom
  · -- no room: a new row
    have hold : ∀ k, k < w.heap.size → k ≠ w.heap.size := fun k hk => Nat.ne_of_lt hk
    by_cases hin : i = n
    · subst hin
      refine (ins_float32_end_grow a i c (μ vid).b 0 1 c2 us [u0] w (by omega) g6 hroom (by omega) t1 rfl (fun e => ?_) (fun a' e j v' hj => ?_) hvs (by simpa using hu1)).mono ?_
      · rcases Nat.eq_zero_or_pos c with h | h
        · omega
        · have := g4 h
          rw [e] at this; cases this
      · subst e
        have hc0 : 0 < c := by
          rcases Nat.eq_zero_or_pos c with h | h
          · have : us = [] := List.eq_nil_of_length_eq_zero (by omega)
            rw [this] at hj; simp at hj
          · exact h
        have := g4 hc0
        cases this
        exact t2 j v' hj
      rintro e w' ⟨rfl, rfl⟩
      obtain ⟨cur, hcur⟩ : ∃ cur, cur = (us ++ [u0]).toArray ++ Builtin.zeroCells (Value.float .f32 0).cells (grownCap w (i + 1) c 37 - (i + 1)) := ⟨_, rfl⟩
      have hsz : cur.size = grownCap w (i + 1) c 37 := by rw [hcur, Array.size_append, hzs]; simp [t1]; omega
      rw [← hcur]
      obtain ⟨r1, r2, r3⟩ := hR.inserted (w' := w.drew.alloc (.cells cur 37)) (i := i) (x := x) (u := u0) ho hn (Nat.le_refl _) t5 hx t4 hu1 ⟨w.heap.size, 0, grownCap w (i + 1) c 37⟩ (Or.inr (Nat.le_refl _)) rfl hGn
        ((below_drewN' (n := 1) hR.bel).alloc (by simpa using hR.bel.size) _) (fun k hk _ => by show (w.heap.push _)[k]? = _; rw [Array.getElem?_push, if_neg (Nat.ne_of_lt hk)]) (cur := cur) (by show (w.heap.push _)[w.heap.size]? = _; rw [Array.getElem?_push, if_pos rfl]) hsz
        (fun j hj => by
          have e0 : us.take i ++ u0 :: us.drop i = us ++ [u0] := by rw [List.take_of_length_le (by omega), List.drop_of_length_le (by omega)]
          rw [e0, hcur, Array.getElem?_append_left (by simp [t1]; omega)]
          simp)
      exact ⟨_, rfl, _, _, _, r1, r3, r2, rfl, rfl⟩
    · have hz : (μ id).size ≠ 0 := by omega
      obtain ⟨d1, d2, d3, curr, d4, d5⟩ := hR.real ho rfl hz
      have ea : a = some ⟨(μ id).b, 0, none⟩ := by rw [g4 (by omega)]; simp [ad, d2]
      subst ea
      have hcs : ∀ j w1, us[j]? = some w1 → w.cell? ⟨(μ id).b, 0 + j, none⟩ = some w1 := fun j w1 hj => by
        have := t2 j w1 hj
        rw [ad_add] at this
        simpa [ad, d2] using this
      refine (ins_float32_grow (μ id).b 0 n c i (μ vid).b 0 1 c2 us [u0] w (by omega) (by omega) g6 hroom (by omega) t1 rfl hcs hvs t4 (by simpa using hu1)).mono ?_
      rintro e w' ⟨rfl, rfl⟩
      obtain ⟨cur, hcur⟩ : ∃ cur, cur = (us.take i).toArray ++ Builtin.zeroCells (Value.float .f32 0).cells (n + 1 - i) ++ Builtin.zeroCells (Value.float .f32 0).cells (grownCap w (n + 1) c 37 - (n + 1)) := ⟨_, rfl⟩
      have hsz : cur.size = grownCap w (n + 1) c 37 := by rw [hcur, Array.size_append, Array.size_append, hzs, hzs]; simp [t1]; omega
      rw [← hcur]
      have hw1 : ((w.alloc (.cells cur 37)).drew).heap[w.heap.size]? = some (.cells cur 37 (0, 0)) := by show (w.heap.push _)[w.heap.size]? = _; rw [Array.getElem?_push, if_pos rfl]
      obtain ⟨cur1, e1, e2, e3, e4, e5, e6, e7, e8⟩ := setCells_heap w.heap.size [u0] i _ hw1 (by simp; omega)
      have hw2 : (((w.alloc (.cells cur 37)).drew.setCells w.heap.size i [u0]).drew).heap[w.heap.size]? = some (.cells cur1 37 (0, 0)) := e1
      obtain ⟨cur2, f1, f2, f3, f4, f5, f6, f7, f8⟩ := setCells_heap w.heap.size (us.drop i) (i + 1) _ hw2 (by simp; omega)
      have hblk : ∀ k, k < w.heap.size → ((((w.alloc (.cells cur 37)).drew.setCells w.heap.size i [u0]).drew).setCells w.heap.size (i + 1) (us.drop i)).heap[k]? = w.heap[k]? := fun k hk => by
        rw [f4 k (Nat.ne_of_lt hk)]
        show ((w.alloc (.cells cur 37)).drew.setCells w.heap.size i [u0]).heap[k]? = _
        rw [e4 k (Nat.ne_of_lt hk)]
        show (w.heap.push _)[k]? = _
        rw [Array.getElem?_push, if_neg (Nat.ne_of_lt hk)]
      have hbel : Below w0.heap.size w0 ((((w.alloc (.cells cur 37)).drew.setCells w.heap.size i [u0]).drew).setCells w.heap.size (i + 1) (us.drop i)) :=
        hR.bel.trans ⟨f6.trans e6, f7.trans e7, f8.trans e8, by rw [f5]; show _ ≤ ((w.alloc (.cells cur 37)).drew.setCells w.heap.size i [u0]).heap.size; rw [e5]; show _ ≤ (w.heap.push _).size; rw [Array.size_push]; omega, fun k hk => hblk k (by have := hR.bel.size; omega)⟩
      obtain ⟨r1, r2, r3⟩ := hR.inserted (i := i) (x := x) (u := u0) ho hn hi t5 hx t4 hu1 ⟨w.heap.size, 0, grownCap w (n + 1) c 37⟩ (Or.inr (Nat.le_refl _)) rfl hGn hbel (fun k hk _ => hblk k hk) f1 (by rw [f2, e2, hsz])
        (fun j hj => by
          rw [insL_get us u0 i j (by omega), f3, e3]
          simp only [List.length_drop, List.length_singleton]
          by_cases h1 : j < i
          · rw [if_neg (by omega), if_neg (by omega), if_pos h1, hcur, Array.getElem?_append_left (by simp [t1, hzs]; omega), Array.getElem?_append_left (by simp [t1]; omega)]
            simp [h1]
          · rw [if_neg h1]
            by_cases h2 : j = i
            · subst h2; rw [if_neg (by omega), if_pos (by omega), if_pos rfl, Nat.sub_self]; rfl
            · rw [if_pos (by omega), if_neg h2, List.getElem?_drop]; congr 1; omega)
      exact ⟨_, rfl, _, _, _, r1, r3, r2, rfl, rfl⟩
  · have hz : (μ id).size ≠ 0 := by omega
    obtain ⟨d1, d2, d3, curr, d4, d5⟩ := hR.real ho rfl hz
    have ea : a = some ⟨(μ id).b, 0, none⟩ := by rw [g4 (by omega)]; simp [ad, d2]
    subst ea
    have hlt := hR.lt ho rfl hz
    have hcs : ∀ j w1, us[j]? = some w1 → w.cell? ⟨(μ id).b, 0 + j, none⟩ = some w1 := fun j w1 hj => by
      have := t2 j w1 hj
      rw [ad_add] at this
      simpa [ad, d2] using this
    have hcu : ∀ j, j < n → curr[j]? = us[j]? := fun j hj => by
      have h0 := hcs j us[j] (List.getElem?_eq_getElem (by omega))
      rw [cell_row d4, Nat.zero_add] at h0
      rw [h0, List.getElem?_eq_getElem]
    have hbne : (μ vid).b ≠ (μ id).b := fun e => hne (hR.dj vid id _ _ hv ho rfl rfl hzv hz e).symm
    have hsp : ∀ j, j < n + 1 → (w.cell? ⟨(μ id).b, j, none⟩).isSome = true := fun j hj => by rw [cell_row d4, Array.getElem?_eq_getElem (by omega)]; rfl
    have hfz : ∀ j, w.frozen? ⟨(μ id).b, j, none⟩ = false := fun j => by simp [World.frozen?, d4]
    have hc63 : n + 1 ≤ 9223372036854775807 := by omega
    by_cases hin : i = n
    · subst hin
      refine (ins_float32_end_room (μ id).b 0 i c (μ vid).b 0 1 c2 [u0] w (by omega) hroom hc63 rfl (fun j hj => by rw [Nat.zero_add]; exact hsp _ (by omega)) (fun j hj => hfz _) hvs (by simpa using hu1)).mono ?_
      rintro e w' ⟨rfl, rfl⟩
      rw [Nat.zero_add]
      obtain ⟨cur1, e1, e2, e3, e4, e5, e6, e7, e8⟩ := setCells_heap (μ id).b [u0] i w d4 (by simp; omega)
      have hbel : Below w0.heap.size w0 (w.setCells (μ id).b i [u0]) := hR.bel.trans ⟨e6, e7, e8, Nat.le_of_eq e5.symm, fun k hk => e4 k (by omega)⟩
      obtain ⟨r1, r2, r3⟩ := hR.inserted (i := i) (x := x) (u := u0) ho hn hi t5 hx t4 hu1 ⟨(μ id).b, 0, c⟩ (Or.inl ⟨rfl, g5⟩) rfl hroom hbel (fun k hk hor => e4 k (by rcases hor with h | h; exact h; exact absurd h hz)) e1 (by rw [e2, d5, g5])
        (fun j hj => by
          rw [insL_get us u0 i j (by omega), e3]
          simp only [List.length_singleton]
          by_cases h1 : j < i
          · rw [if_neg (by omega), if_pos h1]; exact hcu j h1
          · have h2 : j = i := by omega
            subst h2; rw [if_pos (by omega), if_neg h1, if_pos rfl, Nat.sub_self]; rfl)
      exact ⟨_, rfl, _, _, _, r1, r3, r2, rfl, rfl⟩
    · refine (ins_float32_shift (μ id).b 0 n c i (μ vid).b 0 1 c2 us [u0] w (by omega) (by omega) hroom hc63 hbne t1 rfl hcs (fun j hj => by rw [Nat.zero_add]; exact hsp _ hj) (fun j hj => hfz _) hvs t4 (by simpa using hu1)
        vel 37 curv.size curr.size (by simp [World.shape?, b4]) (by simp [World.shape?, d4]) (by omega) (by simp [World.frozen?, b4]) (by simp [World.frozen?, b4])).mono ?_
      rintro e w' ⟨rfl, rfl⟩
      rw [Nat.zero_add, Nat.zero_add]
      have d4' : w.drew.heap[(μ id).b]? = some (.cells curr 37 (0, 0)) := d4
      obtain ⟨cur1, e1, e2, e3, e4, e5, e6, e7, e8⟩ := setCells_heap (μ id).b (us.drop i) (i + 1) w.drew d4' (by simp; omega)
      obtain ⟨cur2, f1, f2, f3, f4, f5, f6, f7, f8⟩ := setCells_heap (μ id).b [u0] i _ e1 (by simp; omega)
      have hbel : Below w0.heap.size w0 ((w.drew.setCells (μ id).b (i + 1) (us.drop i)).setCells (μ id).b i [u0]) :=
        hR.bel.trans ⟨f6.trans e6, f7.trans e7, f8.trans e8, by rw [f5, e5]; exact Nat.le_refl _, fun k hk => by rw [f4 k (by omega), e4 k (by omega)]; rfl⟩
      obtain ⟨r1, r2, r3⟩ := hR.inserted (i := i) (x := x) (u := u0) ho hn hi t5 hx t4 hu1 ⟨(μ id).b, 0, c⟩ (Or.inl ⟨rfl, g5⟩) rfl hroom hbel
        (fun k hk hor => by have hk' : k ≠ (μ id).b := by (rcases hor with h | h; exact h; exact absurd h hz)
                            rw [f4 k hk', e4 k hk']; rfl) f1 (by rw [f2, e2, d5, g5])
        (fun j hj => by
          rw [insL_get us u0 i j (by omega), f3, e3]
          simp only [List.length_drop, List.length_singleton]
          by_cases h1 : j < i
          · rw [if_neg (by omega), if_neg (by omega), if_pos h1]; exact hcu j (by omega)
          · rw [if_neg h1]
            by_cases h2 : j = i
            · subst h2; rw [if_pos (by omega), if_pos rfl, Nat.sub_self]; rfl
            · rw [if_neg (by omega), if_pos (by omega), if_neg h2, List.getElem?_drop]; congr 1; omega)
      exact ⟨_, rfl, _, _, _, r1, r3, r2, rfl, rfl⟩
set_option maxHeartbeats 4000000 in
theorem Insert_int64_c (id ver n i vid vver vel : Nat) (xs : List LV) (x : LV) (H : Hp) (ho : H[id]? = some ⟨ver, false, 2, 1, xs⟩) (hv : H[vid]? = some ⟨vver, false, vel, 1, [x]⟩) (hne : id ≠ vid) (hn : xs.length = n) (hi : i ≤ n) (hl : n ≤ 1048576) :
    FunH Try.prog 124 [.sl id ver 0 n none, .int .i64 i, .sl vid vver 0 1 none] H fun r H' => r = .sl id (ver + 1) 0 (n + 1) none ∧ H' = H.set id ⟨ver + 1, false, 2, 1, xs.take i ++ x :: xs.drop i⟩ := by
  intro w0 μ w cargs hR ha
  obtain ⟨v, iv, u, rfl⟩ : ∃ v iv u, cargs = #[v, iv, u] := by
    have := ha.len
    obtain ⟨l⟩ := cargs
    match l, this with
    | [v, iv, u], _ => exact ⟨v, iv, u, rfl⟩
  obtain ⟨⟨o, a, c, g1, g2, rfl, g3⟩, hiv, ⟨o2, a2, c2, q1, q2, rfl, q3⟩, _⟩ := ha
  have hiv' : iv = .int .i64 i := hiv
  subst hiv'
  rw [ho] at g1; cases g1
  rw [hv] at q1; cases q1
  obtain ⟨g6, g4, _, g7⟩ := g3 rfl
  obtain ⟨q6, q4, _, q7⟩ := q3 rfl
  have g5 := (g7 rfl).1 rfl
  have q5 := (q7 rfl).1 rfl
  clear g3 q3 g7 q7
  simp only [Nat.zero_add, Nat.mul_one] at g5 q5
  have hzv : (μ vid).size ≠ 0 := by omega
  obtain ⟨b1, b2, b3, curv, b4, b5⟩ := hR.real hv rfl hzv
  have ea2 : a2 = some ⟨(μ vid).b, 0, none⟩ := by rw [q4 (by omega)]; simp [ad, b2]
  subst ea2
  obtain ⟨uv, s1, s2, s3, s4⟩ := seg_sound hR hv 0 1 (by simp)
  obtain ⟨u0, rfl⟩ : ∃ u0, uv = [u0] := by
    match uv, s1 with
    | [u0], _ => exact ⟨u0, rfl⟩
  have hx : BR μ H x u0 := s3.1
  have hu1 := s4 u0 (by simp)
  have hvs : ∀ j w1, [u0][j]? = some w1 → w.cell? ⟨(μ vid).b, 0 + j, none⟩ = some w1 := fun j w1 hj => by
    have := s2 j w1 hj
    rw [ad_add] at this
    simpa [ad, b2] using this
  obtain ⟨us, t1, t2, t3, t4⟩ := seg_sound hR ho 0 n (by simp [hn])
  have t5 : All2 (BR μ H) xs us := by simpa [List.take_of_length_le (Nat.le_of_eq hn)] using t3
  clear t3
  have hen : (callFunc 124 #[.slice a n c, .int .i64 i, .slice (some ⟨(μ vid).b, 0, none⟩) 1 c2]).run Try.prog w = .ok (.enter 124 #[.slice a n c, .int .i64 i, .slice (some ⟨(μ vid).b, 0, none⟩) 1 c2]) w := enter_of Try.func124 (by kernel_rfl) rfl _ w
  rw [hen]
  show Calls Try.prog 124 #[.slice a n c, .int .i64 i, .slice (some ⟨(μ vid).b, 0, none⟩) 1 c2] w _

  have hGn : n + 1 ≤ grownCap w (n + 1) c 2 := grownCap_ge w _ _ _
  have hzs : ∀ m, (Builtin.zeroCells (Value.int .i64 0).cells m).size = m := fun m => by simp [Builtin.zeroCells, Value.cells]
  rcases Nat.lt_or_ge c (n + 1) with hroom | hroom
  · -- no room: a new row
    have hold : ∀ k, k < w.heap.size → k ≠ w.heap.size := fun k hk => Nat.ne_of_lt hk
    by_cases hin : i = n
    · subst hin
      refine (ins_int64_end_grow a i c (μ vid).b 0 1 c2 us [u0] w (by omega) g6 hroom (by omega) t1 rfl (fun e => ?_) (fun a' e j v' hj => ?_) hvs (by simpa using hu1)).mono ?_
      · rcases Nat.eq_zero_or_pos c with h | h
        · omega
        · have := g4 h
          rw [e] at this; cases this
      · subst e
        have hc0 : 0 < c := by
          rcases Nat.eq_zero_or_pos c with h | h
          · have : us = [] := List.eq_nil_of_length_eq_zero (by omega)
            rw [this] at hj; simp at hj
          · exact h
        have := g4 hc0
        cases this
        exact t2 j v' hj
      rintro e w' ⟨rfl, rfl⟩
      obtain ⟨cur, hcur⟩ : ∃ cur, cur = (us ++ [u0]).toArray ++ Builtin.zeroCells (Value.int .i64 0).cells (grownCap w (i + 1) c 2 - (i + 1)) := ⟨_, rfl⟩
      have hsz : cur.size = grownCap w (i + 1) c 2 := by rw [hcur, Array.size_append, hzs]; simp [t1]; omega
      rw [← hcur]
      obtain ⟨r1, r2, r3⟩ := hR.inserted (w' := w.drew.alloc (.cells cur 2)) (i := i) (x := x) (u := u0) ho hn (Nat.le_refl _) t5 hx t4 hu1 ⟨w.heap.size, 0, grownCap w (i + 1) c 2⟩ (Or.inr (Nat.le_refl _)) rfl hGn
        ((below_drewN' (n := 1) hR.bel).alloc (by simpa using hR.bel.size) _) (fun k hk _ => by show (w.heap.push _)[k]? = _; rw [Array.getElem?_push, if_neg (Nat.ne_of_lt hk)]) (cur := cur) (by show (w.heap.push _)[w.heap.size]? = _; rw [Array.getElem?_push, if_pos rfl]) hsz
        (fun j hj => by
          have e0 : us.take i ++ u0 :: us.drop i = us ++ [u0] := by rw [List.take_of_length_le (by omega), List.drop_of_length_le (by omega)]
          rw [e0, hcur, Array.getElem?_append_left (by simp [t1]; omega)]
          simp)
      exact ⟨_, rfl, _, _, _, r1, r3, r2, rfl, rfl⟩
    · have hz : (μ id).size ≠ 0 := by omega
      obtain ⟨d1, d2, d3, curr, d4, d5⟩ := hR.real ho rfl hz
      have ea : a = some ⟨(μ id).b, 0, none⟩ := by rw [g4 (by omega)]; simp [ad, d2]
      subst ea
      have hcs : ∀ j w1, us[j]? = some w1 → w.cell? ⟨(μ id).b, 0 + j, none⟩ = some w1 := fun j w1 hj => by
        have := t2 j w1 hj
        rw [ad_add] at this
        simpa [ad, d2] using this
      refine (ins_int64_grow (μ id).b 0 n c i (μ vid).b 0 1 c2 us [u0] w (by omega) (by omega) g6 hroom (by omega) t1 rfl hcs hvs t4 (by simpa using hu1)).mono ?_
      rintro e w' ⟨rfl, rfl⟩
      obtain ⟨cur, hcur⟩ : ∃ cur, cur = (us.take i).toArray ++ Builtin.zeroCells (Value.int .i64 0).cells (n + 1 - i) ++ Builtin.zeroCells (Value.int .i64 0).cells (grownCap w (n + 1) c 2 - (n + 1)) := ⟨_, rfl⟩
      have hsz : cur.size = grownCap w (n + 1) c 2 := by rw [hcur, Array.size_append, Array.size_append, hzs, hzs]; simp [t1]; omega
      rw [← hcur]
      have hw1 : ((w.alloc (.cells cur 2)).drew).heap[w.heap.size]? = some (.cells cur 2 (0, 0)) := by show (w.heap.push _)[w.heap.size]? = _; rw [Array.getElem?_push, if_pos rfl]
      obtain ⟨cur1, e1, e2, e3, e4, e5, e6, e7, e8⟩ := setCells_heap w.heap.size [u0] i _ hw1 (by simp; omega)
      have hw2 : (((w.alloc (.cells cur 2)).drew.setCells w.heap.size i [u0]).drew).heap[w.heap.size]? = some (.cells cur1 2 (0, 0)) := e1
      obtain ⟨cur2, f1, f2, f3, f4, f5, f6, f7, f8⟩ := setCells_heap w.heap.size (us.drop i) (i + 1) _ hw2 (by simp; omega)
      have hblk : ∀ k, k < w.heap.size → ((((w.alloc (.cells cur 2)).drew.setCells w.heap.size i [u0]).drew).setCells w.heap.size (i + 1) (us.drop i)).heap[k]? = w.heap[k]? := fun k hk => by
        rw [f4 k (Nat.ne_of_lt hk)]
        show ((w.alloc (.cells cur 2)).drew.setCells w.heap.size i [u0]).heap[k]? = _
        rw [e4 k (Nat.ne_of_lt hk)]
        show (w.heap.push _)[k]? = _
        rw [Array.getElem?_push, if_neg (Nat.ne_of_lt hk)]
      have hbel : Below w0.heap.size w0 ((((w.alloc (.cells cur 2)).drew.setCells w.heap.size i [u0]).drew).setCells w.heap.size (i + 1) (us.drop i)) :=
        hR.bel.trans ⟨f6.trans e6, f7.trans e7, f8.trans e8, by rw [f5]; show _ ≤ ((w.alloc (.cells cur 2)).drew.setCells w.heap.size i [u0]).heap.size; rw [e5]; show _ ≤ (w.heap.push _).size; rw [Array.size_push]; omega, fun k hk => hblk k (by have := hR.bel.size; omega)⟩
      obtain ⟨r1, r2, r3⟩ := hR.inserted (i := i) (x := x) (u := u0) ho hn hi t5 hx t4 hu1 ⟨w.heap.size, 0, grownCap w (n + 1) c 2⟩ (Or.inr (Nat.le_refl _)) rfl hGn hbel (fun k hk _ => hblk k hk) f1 (by rw [f2, e2, hsz])
        (fun j hj => by
          rw [insL_get us u0 i j (by omega), f3, e3]
          simp only [List.length_drop, List.length_singleton]
          by_cases h1 : j < i
          · rw [if_neg (by omega), if_neg (by omega), if_pos h1, hcur, Array.getElem?_append_left (by simp [t1, hzs]; omega), Array.getElem?_append_left (by simp [t1]; omega)]
            simp [h1]
          · rw [if_neg h1]
            by_cases h2 : j = i
            · subst h2; rw [if_neg (by omega), if_pos (by omega), if_pos rfl, Nat.sub_self]; rfl
            · rw [if_pos (by omega), if_neg h2, List.getElem?_drop]; congr 1; omega)
      exact ⟨_, rfl, _, _, _, r1, r3, r2, rfl, rfl⟩
  · have hz : (μ id).size ≠ 0 := by omega
    obtain ⟨d1, d2, d3, curr, d4, d5⟩ := hR.real ho rfl hz
    have ea : a = some ⟨(μ id).b, 0, none⟩ := by rw [g4 (by omega)]; simp [ad, d2]
    subst ea
    have hlt := hR.lt ho rfl hz
    have hcs : ∀ j w1, us[j]? = some w1 → w.cell? ⟨(μ id).b, 0 + j, none⟩ = some w1 := fun j w1 hj => by
      have := t2 j w1 hj
      rw [ad_add] at this
      simpa [ad, d2] using this
    have hcu : ∀ j, j < n → curr[j]? = us[j]? := fun j hj => by
      have h0 := hcs j us[j] (List.getElem?_eq_getElem (by omega))
      rw [cell_row d4, Nat.zero_add] at h0
      rw [h0, List.getElem?_eq_getElem]
    have hbne : (μ vid).b ≠ (μ id).b := fun e => hne (hR.dj vid id _ _ hv ho rfl rfl hzv hz e).symm
    have hsp : ∀ j, j < n + 1 → (w.cell? ⟨(μ id).b, j, none⟩).isSome = true := fun j hj => by rw [cell_row d4, Array.getElem?_eq_getElem (by omega)]; rfl
    have hfz : ∀ j, w.frozen? ⟨(μ id).b, j, none⟩ = false := fun j => by simp [World.frozen?, d4]
    have hc63 : n + 1 ≤ 9223372036854775807 := by omega
    by_cases hin : i = n
    · subst hin
      refine (ins_int64_end_room (μ id).b 0 i c (μ vid).b 0 1 c2 [u0] w (by omega) hroom hc63 rfl (fun j hj => by rw [Nat.zero_add]; exact hsp _ (by omega)) (fun j hj => hfz _) hvs (by simpa using hu1)).mono ?_
      rintro e w' ⟨rfl, rfl⟩
      rw [Nat.zero_add]
      obtain ⟨cur1, e1, e2, e3, e4, e5, e6, e7, e8⟩ := setCells_heap (μ id).b [u0] i w d4 (by simp; omega)
      have hbel : Below w0.heap.size w0 (w.setCells (μ id).b i [u0]) := hR.bel.trans ⟨e6, e7, e8, Nat.le_of_eq e5.symm, fun k hk => e4 k (by omega)⟩
      obtain ⟨r1, r2, r3⟩ := hR.inserted (i := i) (x := x) (u := u0) ho hn hi t5 hx t4 hu1 ⟨(μ id).b, 0, c⟩ (Or.inl ⟨rfl, g5⟩) rfl hroom hbel (fun k hk hor => e4 k (by rcases hor with h | h; exact h; exact absurd h hz)) e1 (by rw [e2, d5, g5])
        (fun j hj => by
          rw [insL_get us u0 i j (by omega), e3]
          simp only [List.length_singleton]
          by_cases h1 : j < i
          · rw [if_neg (by omega), if_pos h1]; exact hcu j h1
          · have h2 : j = i := by omega
            subst h2; rw [if_pos (by omega), if_neg h1, if_pos rfl, Nat.sub_self]; rfl)
      exact ⟨_, rfl, _, _, _, r1, r3, r2, rfl, rfl⟩
    · refine (ins_int64_shift (μ id).b 0 n c i (μ vid).b 0 1 c2 us [u0] w (by omega) (by omega) hroom hc63 hbne t1 rfl hcs (fun j hj => by rw [Nat.zero_add]; exact hsp _ hj) (fun j hj => hfz _) hvs t4 (by simpa using hu1)
        vel 2 curv.size curr.size (by simp [World.shape?, b4]) (by simp [World.shape?, d4]) (by omega) (by simp [World.frozen?, b4]) (by simp [World.frozen?, b4])).mono ?_
      rintro e w' ⟨rfl, rfl⟩
      rw [Nat.zero_add, Nat.zero_add]
      have d4' : w.drew.heap[(μ id).b]? = some (.cells curr 2 (0, 0)) := d4
      obtain ⟨cur1, e1, e2, e3, e4, e5, e6, e7, e8⟩ := setCells_heap (μ id).b (us.drop i) (i + 1) w.drew d4' (by simp; omega)
      obtain ⟨cur2, f1, f2, f3, f4, f5, f6, f7, f8⟩ := setCells_heap (μ id).b [u0] i _ e1 (by simp; omega)
      have hbel : Below w0.heap.size w0 ((w.drew.setCells (μ id).b (i + 1) (us.drop i)).setCells (μ id).b i [u0]) :=
        hR.bel.trans ⟨f6.trans e6, f7.trans e7, f8.trans e8, by rw [f5, e5]; exact Nat.le_refl _, fun k hk => by rw [f4 k (by omega), e4 k (by omega)]; rfl⟩
      obtain ⟨r1, r2, r3⟩ := hR.inserted (i := i) (x := x) (u := u0) ho hn hi t5 hx t4 hu1 ⟨(μ id).b, 0, c⟩ (Or.inl ⟨rfl, g5⟩) rfl hroom hbel
        (fun k hk hor => by have hk' : k ≠ (μ id).b := by (rcases hor with h | h; exact h; exact absurd h hz)
                            rw [f4 k hk', e4 k hk']; rfl) f1 (by rw [f2, e2, d5, g5])
        (fun j hj => by
          rw [insL_get us u0 i j (by omega), f3, e3]
          simp only [List.length_drop, List.length_singleton]
          by_cases h1 : j < i
          · rw [if_neg (by omega), if_neg (by omega), if_pos h1]; exact hcu j (by omega)
          · rw [if_neg h1]
            by_cases h2 : j = i
            · subst h2; rw [if_pos (by omega), if_pos rfl, Nat.sub_self]; rfl
            · rw [if_neg (by omega), if_pos (by omega), if_neg h2, List.getElem?_drop]; congr 1; omega)
      exact ⟨_, rfl, _, _, _, r1, r3, r2, rfl, rfl⟩
end Go.Proofs.Ytkkcfbpgcekmjaa
