/- SmoothStream. -/
import Derived.Test.YtajekmpjebhaoaaShare
import Derived.Test.YtajekmpjebhaoaaApp
namespace Go.Proofs.Ytajekmpjebhaoaa
open Go.RowKit
set_option linter.unusedSimpArgs false
set_option linter.unusedVariables false

def smStep (sh : Nat) (x : Option Nat) (y : Nat) : Option Nat := opC .add .f32 x (opC .mul .f32 (can .f32 sh) (opC .sub .f32 (can .f32 y) x))
def smAt (sh : Nat) (xs : List Nat) : Nat → Option Nat
  | 0 => can .f32 (ix xs 0)
  | k + 1 => smStep sh (smAt sh xs k) (ix xs (k + 1))
def smL (sh : Nat) (xs : List Nat) (k : Nat) : List (Option Nat) := (List.range k).map (smAt sh xs)
theorem smL_succ (sh : Nat) (xs : List Nat) (k : Nat) : smL sh xs (k + 1) = smL sh xs k ++ [smAt sh xs k] := by
  unfold smL; rw [List.range_succ, List.map_append]; rfl
def finC (x : Option Nat) : Bool := match x with | some b => finB .f32 b | none => false
theorem finC_can (b : Nat) : finC (can .f32 b) = finB .f32 b := by
  unfold can
  cases h : isNum .f32 b
  · simp only [Bool.false_eq_true, if_false, finC]
    cases e : finB .f32 b
    · rfl
    · have : isNum .f32 b = true := (isNum_iff .f32 b).2 (by have := e; unfold finB at this; simp at this; omega)
      rw [h] at this; cases this
  · simp [finC]
theorem can_fin {b : Nat} {o : Option Nat} (h : can .f32 b = o) (hf : finC o = true) : b = o.getD 0 := by
  subst h
  unfold can at hf ⊢
  cases h : isNum .f32 b
  · rw [h] at hf; simp [finC] at hf
  · simp

def smOk (sh : Nat) (xs : List Nat) : Bool := inB xs.length 1 128 && (xs.all (finB .f32) && (shareB sh && (smL sh xs xs.length).all finC))
def smRes (sh : Nat) (xs : List Nat) : List Nat := if smOk sh xs then (smL sh xs xs.length).map (·.getD 0) else []

theorem map_fin {bs : List Nat} {os : List (Option Nat)} (h : bs.map (can .f32) = os) (hf : os.all finC = true) : bs = os.map (·.getD 0) := by
  induction bs generalizing os with
  | nil => subst h; rfl
  | cons b bs ih =>
    subst h
    simp only [List.map_cons, List.all_cons, Bool.and_eq_true] at hf ⊢
    rw [← can_fin rfl hf.1, ← ih rfl hf.2]
theorem all_fin {bs : List Nat} {os : List (Option Nat)} (h : bs.map (can .f32) = os) : bs.all (finB .f32) = os.all finC := by
  subst h
  induction bs with
  | nil => rfl
  | cons b bs ih => simp only [List.map_cons, List.all_cons, finC_can, ih]

theorem below_app2 {a w w' : World} {base : Nat} {e : TypeId} {s n : Nat} {v : Value} {xs : List Value} (hg : w.grownBy w' v.ownBlock) (hown : w.ownsRow base e s v n xs) (hb : a.heap.size ≤ base) (h : Below a.heap.size a w) : Below a.heap.size a w' := below_app h hown hb hg

theorem infoF : (Try.prog.info? 22).map (fun i => (i.zero, i.size, i.bytes)) = some (some (.float .f32 0), 1, 4) := by kernel_rfl

theorem areFinK (b off n cap : Nat) (xs : List Nat) (w : World) (h : Rd w (.float .f32) (some ⟨b, off, none⟩) n xs) (h0 : 0 < xs.length) (hb : b < w.heap.size) (hc : w.cell? ⟨b, off, none⟩ = some (.float .f32 (ix xs 0))) :
    Calls Try.prog 71 #[.slice (some ⟨b, off, none⟩) n cap] w fun e w' => e = .returned (.bool (xs.all (finB .f32))) ∧ w'.cell? ⟨b, off, none⟩ = some (.float .f32 (ix xs 0)) ∧ b < w'.heap.size ∧ Hid (Rd w' (.float .f32) (some ⟨b, off, none⟩) n xs ∧ Below w.heap.size w w' ∧ w'.heap.size = w.heap.size) := by
  refine (areFinite_any _ n cap xs w h).mono ?_
  rintro e w' ⟨rfl, m, rfl⟩
  exact ⟨rfl, by simpa using hc, by simpa using hb, Lib.hid ⟨h.drewN m, by (repeat (first | exact Below.refl _ _ | assumption | apply Below.drew | apply below_drewN' | apply below_alloc' | refine below_next ?_ (by assumption) | refine Below.setCell ?_ (by first | omega | (simp; omega) | simp) _)), by simp⟩⟩

set_option maxHeartbeats 700000 in
set_option maxRecDepth 100000 in
theorem iSmooth_any (a : Option Addr) (n cap : Nat) (xs : List Nat) (sh : Nat) (w : World) (h : Rd w (.float .f32) a n xs) :
    Calls Try.prog 54 #[.slice a n cap, .float .f32 sh] w fun e w' => ∃ v, e = .returned (.tuple #[v, .bool (smOk sh xs)]) ∧ w'.ownsRow w.heap.size 22 1 v (smRes sh xs).length ((smRes sh xs).map (Value.float .f32)) ∧ Below w.heap.size w w' := by
  obtain ⟨i0, hi, hz0, hz1, hz2⟩ := info_parts infoF
  have HX := Lib.hid h
  obtain ⟨hx0, hm, hr⟩ := h
  subst hx0
  unfold smRes smOk
  cases eS : inB xs.length 1 128
  · go_enter Try.func54, Try.ntmps54
    go_wp2_with (first | (go_at_call 80; refine (isStream_any _ _).mono ?_; rintro e w' ⟨rfl, hsame⟩; obtain rfl := hsame.symm))
    go_ret2
    exact ⟨_, rfl, World.ownsRow_nil _ _ _ _, by (repeat (first | exact Below.refl _ _ | assumption | apply Below.drew | apply below_drewN' | apply below_alloc' | refine below_next ?_ (by assumption) | refine Below.setCell ?_ (by first | omega | (simp; omega) | simp) _))⟩
  cases eF : xs.all (finB .f32)
  · go_enter Try.func54, Try.ntmps54
    go_wp2_with (first | (go_at_call 80; refine (isStream_any _ _).mono ?_; rintro e w' ⟨rfl, hsame⟩; obtain rfl := hsame.symm) | (go_at_call 71; refine (areFinite_any a _ cap xs _ HX.out).mono ?_; rintro e w' ⟨rfl, m, rfl⟩))
    go_ret2
    exact ⟨_, rfl, World.ownsRow_nil _ _ _ _, by (repeat (first | exact Below.refl _ _ | assumption | apply Below.drew | apply below_drewN' | apply below_alloc' | refine below_next ?_ (by assumption) | refine Below.setCell ?_ (by first | omega | (simp; omega) | simp) _))⟩
  cases eH : shareB sh
  · go_enter Try.func54, Try.ntmps54
    go_wp2_with (first | (go_at_call 80; refine (isStream_any _ _).mono ?_; rintro e w' ⟨rfl, hsame⟩; obtain rfl := hsame.symm) | (go_at_call 71; refine (areFinite_any a _ cap xs _ HX.out).mono ?_; rintro e w' ⟨rfl, m, rfl⟩) | (go_at_call 107; refine (isShare_any _ _).mono ?_; rintro e w' ⟨rfl, hsame⟩; obtain rfl := hsame.symm))
    go_ret2
    exact ⟨_, rfl, World.ownsRow_nil _ _ _ _, by (repeat (first | exact Below.refl _ _ | assumption | apply Below.drew | apply below_drewN' | apply below_alloc' | refine below_next ?_ (by assumption) | refine Below.setCell ?_ (by first | omega | (simp; omega) | simp) _))⟩
  have g1 := (inB_iff' _ _ _).1 eS
  rcases hr with rfl | ⟨b, off, rfl, hb, hc⟩
  · simp at g1
  have hcell0 := hc 0 (by omega)
  rw [Nat.add_zero] at hcell0
  clear hc
  have HB := Lib.hid hb
  have HC0 := Lib.hid hcell0
  clear hb hcell0
  go_enter Try.func54, Try.ntmps54
  go_wp2_with (first | (go_at_call 80; refine (isStream_any _ _).mono ?_; rintro e w' ⟨rfl, hsame⟩; obtain rfl := hsame.symm) | (go_at_call 71; refine (areFinK b off _ cap xs _ HX.out (by omega) HB.out HC0.out).mono ?_; rintro e w' ⟨rfl, hcell1, hb1, HK⟩) | (go_at_call 107; refine (isShare_any _ _).mono ?_; rintro e w' ⟨rfl, hsame⟩; obtain rfl := hsame.symm))
  obtain ⟨hR1, hB1, hS1⟩ := HK.out
  have HB1 := Lib.hid hB1
  have HS1 := Lib.hid hS1
  clear hR1 hB1 hS1
  have HOwn := Lib.hid (World.ownsRow_made (base := w.heap.size) (e := 22) (size := 1) w' #[] 0 (by rw [HS1.out]; exact Nat.le_refl _) (by unfold maxLen; omega) rfl)
  go_loopw [6, 7, 30] (fun out x i wr => ∃ k : Nat, k ≤ xs.length ∧ i = .int .i64 k ∧ ∃ bx, x = .float .f32 bx ∧ Hid (can .f32 bx = smAt sh xs (k - 1)) ∧ ∃ bs : List Nat, Hid (wr.ownsRow w.heap.size 22 1 out bs.length (bs.map (Value.float .f32))) ∧ Hid (bs.map (can .f32) = smL sh xs k) ∧ Hid (Below w.heap.size w wr)) (fun _ _ i _ => xs.length - (intOf i).toNat)
  case atStart => exact ⟨0, Nat.zero_le _, rfl, _, rfl, Lib.hid rfl, [], HOwn, Lib.hid rfl, Lib.hid (by have := HB1.out; (repeat (first | exact Below.refl _ _ | assumption | apply Below.drew | apply below_drewN' | apply below_alloc' | refine below_next ?_ (by assumption) | refine Below.setCell ?_ (by first | omega | (simp; omega) | simp) _)))⟩
  case round =>
    obtain ⟨k, hk, rfl, bx, rfl, hx, bs, hown, hbs, hbl⟩ := hrel
    have hlen : bs.length = k := by have := congrArg List.length hbs.out; simpa [smL] using this
    by_cases hlt : k < xs.length
    · have hRk := HX.out.below hbl.out
      obtain ⟨_, _, hrk⟩ := hRk
      rcases hrk with hrk | ⟨b2, off2, he2, hb2, hc2⟩
      · rw [hrk] at hlt; simp at hlt
      simp only [Option.some.injEq, Addr.mk.injEq] at he2
      obtain ⟨rfl, rfl, _⟩ := he2
      have hcell := hc2 k hlt
      clear hc2
      have hsz := hbl.out.size
      by_cases h0 : 0 < k
      · have h0' : (0 : Int) < (k : Int) := by omega
        have hy : ∀ w1 w2 w3 : World, can .f32 (fop .add .f32 bx (fop .mul .f32 sh (fop .sub .f32 (ix xs k) bx w1) w2) w3) = smAt sh xs (k + 1 - 1) := by
          intro w1 w2 w3
          obtain ⟨j, rfl⟩ : ∃ j, k = j + 1 := ⟨k - 1, by omega⟩
          simp only [can_fop, Nat.add_sub_cancel]
          show _ = smStep sh (smAt sh xs j) (ix xs (j + 1))
          have := hx.out
          rw [Nat.add_sub_cancel] at this
          rw [this]
          rfl
        have HY := Lib.hid hy
        clear hy
        go_wp2_with (first | (at_builtin; refine wpList_app rfl _ _ 31 rfl w.heap.size 22 i0 (.float .f32 0) 4 Try.underlying31 hi hz0 hz1 hz2 rfl (Value.float .f32) bs _ _ rfl (hown.out.alloc _) _ _ rfl (World.cell?_alloc_at _ _ _ _ rfl) rfl (by omega) (by omega) (by simp; omega) ?_; intro v' w1 hown1 hg1))
        refine ⟨⟨k + 1, hlt, congrArg (Value.int .i64) (by simp), _, rfl, Lib.hid (HY.out _ _ _), bs ++ [_], Lib.hid hown1, Lib.hid ?_, Lib.hid (below_app2 hg1 (hown.out.alloc _) (Nat.le_refl _) ?_)⟩, by simp [intOf]; omega⟩
        · rw [smL_succ, List.map_append, hbs.out]
          exact congrArg (fun z => smL sh xs k ++ [z]) (HY.out _ _ _)
        · have := hbl.out
          (repeat (first | exact Below.refl _ _ | assumption | apply Below.drew | apply below_drewN' | apply below_alloc' | refine below_next ?_ (by assumption) | refine Below.setCell ?_ (by first | omega | (simp; omega) | simp) _))
      · have h0' : ¬ (0 : Int) < (k : Int) := by omega
        have HY : Hid (can .f32 bx = smAt sh xs (k + 1 - 1)) := by
          have h00 : k = 0 := by omega
          subst h00
          exact hx
        go_wp2_with (first | (at_builtin; refine wpList_app rfl _ _ 31 rfl w.heap.size 22 i0 (.float .f32 0) 4 Try.underlying31 hi hz0 hz1 hz2 rfl (Value.float .f32) bs _ _ rfl (hown.out.alloc _) _ _ rfl (World.cell?_alloc_at _ _ _ _ rfl) rfl (by omega) (by omega) (by simp; omega) ?_; intro v' w1 hown1 hg1))
        refine ⟨⟨k + 1, hlt, congrArg (Value.int .i64) (by simp), _, rfl, Lib.hid HY.out, bs ++ [_], Lib.hid hown1, Lib.hid ?_, Lib.hid (below_app2 hg1 (hown.out.alloc _) (Nat.le_refl _) ?_)⟩, by simp [intOf]; omega⟩
        · rw [smL_succ, List.map_append, hbs.out]
          exact congrArg (fun z => smL sh xs k ++ [z]) HY.out
        · have := hbl.out
          (repeat (first | exact Below.refl _ _ | assumption | apply Below.drew | apply below_drewN' | apply below_alloc' | refine below_next ?_ (by assumption) | refine Below.setCell ?_ (by first | omega | (simp; omega) | simp) _))
    · have he : k = xs.length := by omega
      subst he
      have hown' := hown.out
      rw [hlen] at hown'
      obtain ⟨a6, c6, rfl, r6⟩ := own_rd hown' (by omega)
      clear hown'
      have HR := Lib.hid r6
      clear r6
      have hall := all_fin hbs.out
      cases eA : (smL sh xs xs.length).all finC
      · rw [eA] at hall
        go_wp2_with (first | (go_at_call 71; refine (areFinite_any _ _ _ bs _ HR.out).mono ?_; rintro e w' ⟨rfl, m, rfl⟩))
        all_goals go_ret2
        all_goals (try simp only [eA, Bool.and_false, Bool.false_eq_true, if_false])
        all_goals exact ⟨_, rfl, World.ownsRow_nil _ _ _ _, by have := hbl.out; (repeat (first | exact Below.refl _ _ | assumption | apply Below.drew | apply below_drewN' | apply below_alloc' | refine below_next ?_ (by assumption) | refine Below.setCell ?_ (by first | omega | (simp; omega) | simp) _))⟩
      · have hm2 := map_fin hbs.out eA
        rw [eA] at hall
        have HM := Lib.hid hm2
        clear hm2
        go_wp2_with (first | (go_at_call 71; refine (areFinite_any _ _ _ bs _ HR.out).mono ?_; rintro e w' ⟨rfl, m, rfl⟩))
        all_goals go_ret2
        all_goals (try simp only [eA, Bool.and_self, if_true])
        all_goals refine ⟨_, rfl, ?_, by have := hbl.out; (repeat (first | exact Below.refl _ _ | assumption | apply Below.drew | apply below_drewN' | apply below_alloc' | refine below_next ?_ (by assumption) | refine Below.setCell ?_ (by first | omega | (simp; omega) | simp) _))⟩
        all_goals have hh := hown.out
        all_goals rw [HM.out] at hh
        all_goals show wr.ownsRow _ _ _ _ _ _
        all_goals simpa using hh
end Go.Proofs.Ytajekmpjebhaoaa
