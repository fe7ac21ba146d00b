/- SmoothStream: the statement's function. -/
import Derived.Test.YtajekmpjebhaoaaWSmooth
namespace Go.Proofs.Ytajekmpjebhaoaa
open Go.RowKit
set_option linter.unusedSimpArgs false
set_option linter.unusedVariables false

theorem smL_bad (sh : Nat) (xs : List Nat) (n k : Nat) (h : k < n) (hf : finC (smAt sh xs k) = false) : (smL sh xs n).all finC = false := by
  cases e : (smL sh xs n).all finC
  · rfl
  · rw [List.all_eq_true] at e
    have := e (smAt sh xs k) (List.mem_map.2 ⟨k, List.mem_range.2 h, rfl⟩)
    rw [hf] at this; cases this
theorem smOk_floats (sh : Nat) (xs : List Nat) : smOk sh xs = (floatsB xs && (shareB sh && (smL sh xs xs.length).all finC)) := by
  unfold smOk floatsB; rw [Bool.and_assoc]

theorem infoFS : (Try.prog.info? 22).map (fun i => (i.zero, i.size, i.bytes)) = some (some (.float .f32 0), 1, 4) := by kernel_rfl
theorem isFinK (b : Nat) (c : Bool) (w : World) (h : finB .f32 b = c) : Calls Try.prog 72 #[.float .f32 b] w fun e w' => e = .returned (.bool c) ∧ ∃ n, w' = w.drewN n := by
  subst h; exact l01Finite_any b w
theorem floatsK (b off n cap : Nat) (xs : List Nat) (w : World) (h : Rd w (.float .f32) (some ⟨b, off, none⟩) n xs) (h0 : 0 < xs.length) (hb : b < w.heap.size) (hc : w.cell? ⟨b, off, none⟩ = some (.float .f32 (ix xs 0))) :
    Calls Try.prog 105 #[.slice (some ⟨b, off, none⟩) n cap] w fun e w' => e = .returned (.bool (floatsB xs)) ∧ w'.cell? ⟨b, off, none⟩ = some (.float .f32 (ix xs 0)) ∧ b < w'.heap.size ∧ Hid (Rd w' (.float .f32) (some ⟨b, off, none⟩) n xs ∧ Below w.heap.size w w' ∧ w'.heap.size = w.heap.size) := by
  refine (l06Floats_any _ n cap xs w h).mono ?_
  rintro e w' ⟨rfl, m, rfl⟩
  exact ⟨rfl, by simpa using hc, by simpa using hb, Lib.hid ⟨h.drewN m, by (repeat (first | exact Below.refl _ _ | assumption | apply Below.drew | apply below_drewN' | apply below_alloc' | refine below_next ?_ (by assumption) | refine Below.setCell ?_ (by first | omega | (simp; omega) | simp) _)), by simp⟩⟩
theorem own_one (w : World) (base : Nat) (e : TypeId) (v : Value) (hb : base ≤ w.heap.size) : (w.alloc (.cells #[v] e)).ownsRow base e 1 (.slice (some ⟨w.heap.size, 0, none⟩) 1 1) 1 [v] :=
  ⟨by simp, .inr ⟨w.heap.size, 1, #[v], rfl, hb, heap_alloc_new w _, Nat.le_refl _, by unfold maxLen; omega, rfl, rfl⟩⟩

set_option maxHeartbeats 1000000 in
set_option maxRecDepth 100000 in
theorem sSmooth_any (a : Option Addr) (n cap : Nat) (xs : List Nat) (sh : Nat) (w : World) (h : Rd w (.float .f32) a n xs) :
    Calls Try.prog 53 #[.slice a n cap, .float .f32 sh] w fun e w' => ∃ v, e = .returned (.tuple #[v, .bool (smOk sh xs)]) ∧ w'.ownsRow w.heap.size 22 1 v (smRes sh xs).length ((smRes sh xs).map (Value.float .f32)) ∧ Below w.heap.size w w' := by
  obtain ⟨i0, hi, hz0, hz1, hz2⟩ := info_parts infoFS
  have HX := Lib.hid h
  obtain ⟨hx0, hm, hr⟩ := h
  subst hx0
  unfold smRes
  rw [smOk_floats]
  cases eS : floatsB xs
  · go_enter Try.func53, Try.ntmps53
    go_wp2_with (first | (go_at_call 105; refine (l06Floats_any a _ cap xs _ HX.out).mono ?_; rintro e w' ⟨rfl, m, rfl⟩))
    go_ret2
    exact ⟨_, rfl, World.ownsRow_nil _ _ _ _, by (repeat (first | exact Below.refl _ _ | assumption | apply Below.drew | apply below_drewN' | apply below_alloc' | refine below_next ?_ (by assumption) | refine Below.setCell ?_ (by first | omega | (simp; omega) | simp) _))⟩
  cases eH : shareB sh
  · go_enter Try.func53, Try.ntmps53
    go_wp2_with (first | (go_at_call 105; refine (l06Floats_any a _ cap xs _ HX.out).mono ?_; rintro e w' ⟨rfl, m, rfl⟩) | (go_at_call 106; refine (l02Share_any _ _).mono ?_; rintro e w' ⟨rfl, hsame⟩; obtain rfl := hsame.symm))
    go_ret2
    exact ⟨_, rfl, World.ownsRow_nil _ _ _ _, by (repeat (first | exact Below.refl _ _ | assumption | apply Below.drew | apply below_drewN' | apply below_alloc' | refine below_next ?_ (by assumption) | refine Below.setCell ?_ (by first | omega | (simp; omega) | simp) _))⟩
  have eS' := eS
  unfold floatsB at eS'
  simp only [Bool.and_eq_true] at eS'
  have g1 := (inB_iff' _ _ _).1 eS'.1
  have HA := Lib.hid ((all_ix xs _).1 eS'.2)
  clear eS'
  rcases hr with rfl | ⟨b, off, rfl, hb, hc⟩
  · simp at g1
  have hcell0 := hc 0 (by omega)
  rw [Nat.add_zero] at hcell0
  clear hc
  have HB := Lib.hid hb
  have HC0 := Lib.hid hcell0
  clear hb hcell0
  go_enter Try.func53, Try.ntmps53
  go_wp2_with (first | (go_at_call 105; refine (floatsK b off _ cap xs _ HX.out (by omega) HB.out HC0.out).mono ?_; rintro e w' ⟨rfl, hcell1, hb1, HK⟩) | (go_at_call 106; refine (l02Share_any _ _).mono ?_; rintro e w' ⟨rfl, hsame⟩; obtain rfl := hsame.symm))
  obtain ⟨hR1, hB1, hS1⟩ := HK.out
  have HB1 := Lib.hid hB1
  have HS1 := Lib.hid hS1
  clear hR1 hB1 hS1
  have HOwn := Lib.hid (own_one w' w.heap.size 22 (.float .f32 (ix xs 0)) (by rw [HS1.out]; exact Nat.le_refl _))
  go_loopw [7, 6, 8] (fun out x i wr => ∃ k : Nat, 1 ≤ k ∧ k ≤ xs.length ∧ i = .int .i64 k ∧ ∃ bx, x = .float .f32 bx ∧ Hid (can .f32 bx = smAt sh xs (k - 1)) ∧ ∃ bs : List Nat, Hid (wr.ownsRow w.heap.size 22 1 out bs.length (bs.map (Value.float .f32))) ∧ Hid (bs.map (can .f32) = smL sh xs k) ∧ Hid ((smL sh xs k).all finC = true) ∧ Hid (Below w.heap.size w wr)) (fun _ _ i _ => xs.length - (intOf i).toNat)
  case atStart => exact ⟨1, Nat.le_refl _, by omega, rfl, _, rfl, Lib.hid rfl, [ix xs 0], HOwn, Lib.hid rfl, Lib.hid (by show (finC (can .f32 (ix xs 0)) && true) = true; rw [finC_can, HA.out 0 (by omega)]; rfl), Lib.hid (by have := HB1.out; (repeat (first | exact Below.refl _ _ | assumption | apply Below.drew | apply below_drewN' | apply below_alloc' | refine below_next ?_ (by assumption) | refine Below.setCell ?_ (by first | omega | (simp; omega) | simp) _)))⟩
  case round =>
    obtain ⟨k, hk1, hk, rfl, bx, rfl, hx, bs, hown, hbs, hfa, hbl⟩ := hrel
    have hlen : bs.length = k := by have := congrArg List.length hbs.out; simpa [smL] using this
    by_cases hlt : k < xs.length
    · have hRk := HX.out.below hbl.out
      obtain ⟨_, _, hrk⟩ := hRk
      rcases hrk with hrk | ⟨b2, off2, he2, hb2, hc2⟩
      · rw [hrk] at hlt; simp at hlt
      simp only [Option.some.injEq, Addr.mk.injEq] at he2
      obtain ⟨rfl, rfl, _⟩ := he2
      have hcell := hc2 k hlt
      clear hc2
      have hsz := hbl.out.size
      have hy : ∀ w1 w2 w3 : World, can .f32 (fop .add .f32 bx (fop .mul .f32 sh (fop .sub .f32 (ix xs k) bx w1) w2) w3) = smAt sh xs (k + 1 - 1) := by
        intro w1 w2 w3
        obtain ⟨j, rfl⟩ : ∃ j, k = j + 1 := ⟨k - 1, by omega⟩
        simp only [can_fop, Nat.add_sub_cancel]
        show _ = smStep sh (smAt sh xs j) (ix xs (j + 1))
        have := hx.out
        rw [Nat.add_sub_cancel] at this
        rw [this]
        rfl
      have HY := Lib.hid hy
      clear hy
      cases eK : finC (smAt sh xs k)
      · have HF := Lib.hid (fun w1 w2 w3 => ((finC_can _).symm.trans (congrArg finC (HY.out w1 w2 w3))).trans eK)
        have hbad := smL_bad sh xs xs.length k hlt eK
        go_wp2_with (first | (go_at_call 72; refine (isFinK _ _ _ (HF.out _ _ _)).mono ?_; rintro e w' ⟨rfl, nn, rfl⟩))
        all_goals go_ret2
        all_goals (try simp only [hbad, Bool.and_false, Bool.false_eq_true, if_false])
        all_goals exact ⟨_, rfl, World.ownsRow_nil _ _ _ _, by have := hbl.out; (repeat (first | exact Below.refl _ _ | assumption | apply Below.drew | apply below_drewN' | apply below_alloc' | refine below_next ?_ (by assumption) | refine Below.setCell ?_ (by first | omega | (simp; omega) | simp) _))⟩
      · have HF := Lib.hid (fun w1 w2 w3 => ((finC_can _).symm.trans (congrArg finC (HY.out w1 w2 w3))).trans eK)
        have HK2 := Lib.hid eK
        clear eK
        go_wp2_with (first | (go_at_call 72; refine (isFinK _ _ _ (HF.out _ _ _)).mono ?_; rintro e w' ⟨rfl, nn, rfl⟩) | (at_builtin; refine wpList_app rfl _ _ 31 rfl w.heap.size 22 i0 (.float .f32 0) 4 Try.underlying31 hi hz0 hz1 hz2 rfl (Value.float .f32) bs _ _ rfl (hown.out.alloc _) _ _ rfl (World.cell?_alloc_at _ _ _ _ rfl) rfl (by omega) (by omega) (by simp; omega) ?_; intro v' w1 hown1 hg1))
        go_roundw
        case rel =>
          refine ⟨k + 1, by omega, hlt, congrArg (Value.int .i64) (by simp), _, rfl, Lib.hid (HY.out _ _ _), bs ++ [_], Lib.hid hown1, Lib.hid ?_, Lib.hid ?_, Lib.hid (below_app2 hg1 (hown.out.alloc _) (Nat.le_refl _) ?_)⟩
          · rw [smL_succ, List.map_append, hbs.out]
            exact congrArg (fun z => smL sh xs k ++ [z]) (HY.out _ _ _)
          · rw [smL_succ, List.all_append, hfa.out]
            simp [HK2.out]
          · have := hbl.out
            (repeat (first | exact Below.refl _ _ | assumption | apply Below.drew | apply below_drewN' | apply below_alloc' | refine below_next ?_ (by assumption) | refine Below.setCell ?_ (by first | omega | (simp; omega) | simp) _))
        case measure => simp [intOf]; omega
    · have he : k = xs.length := by omega
      subst he
      have hall := hfa.out
      have HM := Lib.hid (map_fin hbs.out hfa.out)
      go_wp2
      all_goals go_ret2
      all_goals (try simp only [hall, Bool.and_self, if_true])
      all_goals refine ⟨_, rfl, ?_, by have := hbl.out; (repeat (first | exact Below.refl _ _ | assumption | apply Below.drew | apply below_drewN' | apply below_alloc' | refine below_next ?_ (by assumption) | refine Below.setCell ?_ (by first | omega | (simp; omega) | simp) _))⟩
      all_goals have hh := hown.out
      all_goals rw [HM.out] at hh
      all_goals show wr.ownsRow _ _ _ _ _ _
      all_goals simpa using hh
end Go.Proofs.Ytajekmpjebhaoaa
