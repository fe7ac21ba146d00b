/- The program's SameWindow returns what the reference's returns, for all arguments; no condition. -/
import Derived.Test.YtajekmpjebhaoaaWSameWindow
namespace Go.Proofs.Ytajekmpjebhaoaa
open Go.ChangeShapes Go.WideShapes Go.ChangeAt Go.RowKit
set_option linter.unusedSimpArgs false
set_option linter.unusedVariables false

theorem szW_ok {n m : Nat} {left : Int} (h : ¬ szW n m left < 0) (h0 : 0 ≤ left) : (n : Int) ≤ left ∧ (m : Int) ≤ left ∧ szW n m left ≤ left := by
  unfold szW at h ⊢
  split at h
  · omega
  · split at h
    · omega
    · rename_i h1 h2
      rw [if_neg h1, if_neg h2]; omega

set_option maxHeartbeats 4000000 in
theorem walkSameWindow (l p : Int) (a : Option Addr) (n c : Nat) (xs : List Int) (b : Option Addr) (m d : Nat) (ys : List Int) (l' p' : Int) (a' : Option Addr) (n' c' : Nat) (xs' : List Int) (b' : Option Addr) (m' d' : Nat) (ys' : List Int) (w : World)
    (hn : n ≤ 9223372036854775807) (hm : m ≤ 9223372036854775807) (hn' : n' ≤ 9223372036854775807) (hm' : m' ≤ 9223372036854775807)
    (h1 : RdRaw w (.int .i64) a n xs) (h2 : RdRaw w (.int .i64) b m ys) (h3 : RdRaw w (.int .i64) a' n' xs') (h4 : RdRaw w (.int .i64) b' m' ys') :
    Calls Try.prog 7 #[.agg #[.int .i64 l, .int .i64 p, .slice a n c, .slice b m d], .agg #[.int .i64 l', .int .i64 p', .slice a' n' c', .slice b' m' d']] w fun e w' => e = .returned (.bool true) ∧ Below w.heap.size w w' := by
  by_cases s1 : szW n m 1048576 < 0
  · clear h1 h2 h3 h4
    go_enter Try.func7, Try.ntmps7
    go_wp2_with fail; refine (szWindow_any l p a n c b m d 1048576 _ hn hm (by omega) (by omega)).mono ?_; rintro e w' ⟨rfl, hb⟩
    go_wp2
    go_ret
    exact ⟨rfl, by (repeat (first | exact Below.refl _ _ | assumption | apply Below.drew | apply below_drewN' | apply below_alloc' | refine below_next ?_ (by assumption) | refine Below.setCell ?_ (by first | omega | (simp; omega) | simp) _))⟩
  · have k1 := szW_ok s1 (by omega)
    obtain ⟨sv, hsv⟩ : ∃ sv, szW n m 1048576 = sv := ⟨_, rfl⟩
    rw [hsv] at k1 s1
    by_cases s2 : szW n' m' sv < 0
    · clear h1 h2 h3 h4
      have HSV := Lib.hid hsv
      clear hsv
      go_enter Try.func7, Try.ntmps7
      go_wp2_with fail; refine (szWindow_any l p a n c b m d 1048576 _ hn hm (by omega) (by omega)).mono ?_; rintro e w' ⟨rfl, hb⟩
      rw [HSV.out]
      obtain ⟨hc_hb, hf_hb⟩ := bcell hb; have hs_hb_0 : w.heap.size < w'.heap.size := (by (have := hb.size; first | omega | (simp at this; omega))); have hs_hb_1 : w.heap.size + 1 < w'.heap.size := (by (have := hb.size; first | omega | (simp at this; omega)))
      go_wp2_with fail; refine (szWindow_any l' p' a' n' c' b' m' d' sv _ hn' hm' (by omega) (by omega)).mono ?_; rintro e w' ⟨rfl, hb2⟩
      go_wp2
      go_ret
      exact ⟨rfl, by (repeat (first | exact Below.refl _ _ | assumption | apply Below.drew | apply below_drewN' | apply below_alloc' | refine below_next ?_ (by assumption) | refine Below.setCell ?_ (by first | omega | (simp; omega) | simp) _))⟩
    · have k2 := szW_ok s2 (by omega)
      have H1 := Lib.hid (h1.rd (by omega))
      have H2 := Lib.hid (h2.rd (by omega))
      have H3 := Lib.hid (h3.rd (by omega))
      have H4 := Lib.hid (h4.rd (by omega))
      clear h1 h2 h3 h4
      have HSV := Lib.hid hsv
      clear hsv
      go_enter Try.func7, Try.ntmps7
      go_wp2_with fail; refine (szWindow_any l p a n c b m d 1048576 _ hn hm (by omega) (by omega)).mono ?_; rintro e w' ⟨rfl, hb⟩
      rw [HSV.out]
      obtain ⟨hc_hb, hf_hb⟩ := bcell hb; have hs_hb_0 : w.heap.size < w'.heap.size := (by (have := hb.size; first | omega | (simp at this; omega))); have hs_hb_1 : w.heap.size + 1 < w'.heap.size := (by (have := hb.size; first | omega | (simp at this; omega)))
      go_wp2_with fail; refine (szWindow_any l' p' a' n' c' b' m' d' sv _ hn' hm' (by omega) (by omega)).mono ?_; rintro e w' ⟨rfl, hb2⟩
      obtain ⟨hc_hb2, hf_hb2⟩ := bcell hb2; have hs_hb2_0 : w.heap.size < w'.heap.size := (by (have := hb2.size; first | omega | (simp at this; omega))); have hs_hb2_1 : w.heap.size + 1 < w'.heap.size := (by (have := hb2.size; first | omega | (simp at this; omega)))
      go_wp2_with fail
      refine wp_world (fun W eW => ?_)
      have hC0 : W.cell? ⟨w.heap.size, 0, none⟩ = some (.int .i64 l) := by first | (rw [eW]; assumption) | (rw [eW]; go_simp; done) | (subst eW; go_simp; done)
      have hC1 : W.cell? ⟨w.heap.size, 1, none⟩ = some (.int .i64 p) := by first | (rw [eW]; assumption) | (rw [eW]; go_simp; done) | (subst eW; go_simp; done)
      have hC2 : W.cell? ⟨w.heap.size, 2, none⟩ = some (.slice a n c) := by first | (rw [eW]; assumption) | (rw [eW]; go_simp; done) | (subst eW; go_simp; done)
      have hC3 : W.cell? ⟨w.heap.size, 3, none⟩ = some (.slice b m d) := by first | (rw [eW]; assumption) | (rw [eW]; go_simp; done) | (subst eW; go_simp; done)
      have hC4 : W.cell? ⟨w.heap.size + 1, 0, none⟩ = some (.int .i64 l') := by first | (rw [eW]; assumption) | (rw [eW]; go_simp; done) | (subst eW; go_simp; done)
      have hC5 : W.cell? ⟨w.heap.size + 1, 1, none⟩ = some (.int .i64 p') := by first | (rw [eW]; assumption) | (rw [eW]; go_simp; done) | (subst eW; go_simp; done)
      have hC6 : W.cell? ⟨w.heap.size + 1, 2, none⟩ = some (.slice a' n' c') := by first | (rw [eW]; assumption) | (rw [eW]; go_simp; done) | (subst eW; go_simp; done)
      have hC7 : W.cell? ⟨w.heap.size + 1, 3, none⟩ = some (.slice b' m' d') := by first | (rw [eW]; assumption) | (rw [eW]; go_simp; done) | (subst eW; go_simp; done)
      have hZ0 : w.heap.size < W.heap.size := by first | (rw [eW]; assumption) | (rw [eW]; simp; done) | (rw [eW]; simp; omega) | (rw [eW]; omega)
      have hZ1 : w.heap.size + 1 < W.heap.size := by first | (rw [eW]; assumption) | (rw [eW]; simp; done) | (rw [eW]; simp; omega) | (rw [eW]; omega)
      have hB : Below w.heap.size w W := by rw [eW]; (repeat (first | exact Below.refl _ _ | assumption | apply Below.drew | apply below_drewN' | apply below_alloc' | refine below_next ?_ (by assumption) | refine Below.setCell ?_ (by first | omega | (simp; omega) | simp) _))
      have allS : ∀ w' : World, Below W.heap.size W w' → (w'.cell? ⟨w.heap.size, 0, none⟩ = some (.int .i64 l) ∧ w'.cell? ⟨w.heap.size, 1, none⟩ = some (.int .i64 p) ∧ w'.cell? ⟨w.heap.size, 2, none⟩ = some (.slice a n c) ∧ w'.cell? ⟨w.heap.size, 3, none⟩ = some (.slice b m d) ∧ w'.cell? ⟨w.heap.size + 1, 0, none⟩ = some (.int .i64 l') ∧ w'.cell? ⟨w.heap.size + 1, 1, none⟩ = some (.int .i64 p') ∧ w'.cell? ⟨w.heap.size + 1, 2, none⟩ = some (.slice a' n' c') ∧ w'.cell? ⟨w.heap.size + 1, 3, none⟩ = some (.slice b' m' d') ∧ Hid (Below W.heap.size W w')) := fun w' hb => by
        obtain ⟨hc, _⟩ := bcell hb
        exact ⟨(hc _ _ hZ0).trans hC0, (hc _ _ hZ0).trans hC1, (hc _ _ hZ0).trans hC2, (hc _ _ hZ0).trans hC3, (hc _ _ hZ1).trans hC4, (hc _ _ hZ1).trans hC5, (hc _ _ hZ1).trans hC6, (hc _ _ hZ1).trans hC7, hb⟩
      have HallS := Lib.hid allS
      have HW := Lib.hid eW
      clear allS eW
      go_region_held3 (fun w' => w'.cell? ⟨w.heap.size, 0, none⟩ = some (.int .i64 l) ∧ w'.cell? ⟨w.heap.size, 1, none⟩ = some (.int .i64 p) ∧ w'.cell? ⟨w.heap.size, 2, none⟩ = some (.slice a n c) ∧ w'.cell? ⟨w.heap.size, 3, none⟩ = some (.slice b m d) ∧ w'.cell? ⟨w.heap.size + 1, 0, none⟩ = some (.int .i64 l') ∧ w'.cell? ⟨w.heap.size + 1, 1, none⟩ = some (.int .i64 p') ∧ w'.cell? ⟨w.heap.size + 1, 2, none⟩ = some (.slice a' n' c') ∧ w'.cell? ⟨w.heap.size + 1, 3, none⟩ = some (.slice b' m' d') ∧ Hid (Below W.heap.size W w'))
        (first | exact HallS.out _ (by (repeat (first | exact Below.refl _ _ | assumption | apply Below.drew | apply below_drewN' | apply below_alloc' | refine below_next ?_ (by assumption) | refine Below.setCell ?_ (by first | omega | (simp; omega) | simp) _))) | (go_split_ands; exact HallS.out _ (below_next (Hid.out (by assumption)) (by (repeat (first | exact Below.refl _ _ | assumption | apply Below.drew | apply below_drewN' | apply below_alloc' | refine below_next ?_ (by assumption) | refine Below.setCell ?_ (by first | omega | (simp; omega) | simp) _))))))
        ((first | (go_at_call 28; go_split_ands; (with_reducible refine (toWindow_any l p a n c xs b m d ys _ (H1.out.below (below_next hB (Hid.out (by assumption)))) (H2.out.below (below_next hB (Hid.out (by assumption))))).mono ?_); rintro e w' ⟨v, v', rfl, o, o', hb⟩; obtain ⟨a1, c1, rfl, r1⟩ := own_rd o (by omega); obtain ⟨b1, d1, rfl, r2⟩ := own_rd o' (by omega)) | (go_at_call 28; go_split_ands; (with_reducible refine (toWindow_any l' p' a' n' c' xs' b' m' d' ys' _ (H3.out.below (below_next hB (Hid.out (by assumption)))) (H4.out.below (below_next hB (Hid.out (by assumption))))).mono ?_); rintro e w' ⟨v, v', rfl, o, o', hb'⟩; obtain ⟨a2, c2, rfl, r3⟩ := own_rd o (by omega); obtain ⟨b2, d2, rfl, r4⟩ := own_rd o' (by omega)) | (go_at_call 27; go_split_ands; refine (sSameWindow_any l p a1 n c1 xs b1 m d1 ys l' p' a2 n' c2 xs' b2 m' d2 ys' _ (r1.below hb') (r2.below hb') r3 r4).mono ?_; rintro e w' ⟨rfl, hb⟩)))
      go_split_ands
      have hB := below_next hB (Hid.out (by assumption))
      have hZ0 : w.heap.size < _ := Nat.lt_of_lt_of_le hZ0 (Below.size (Hid.out (by assumption)))
      have hZ1 : w.heap.size + 1 < _ := Nat.lt_of_lt_of_le hZ1 (Below.size (Hid.out (by assumption)))
      clear HallS
      go_wp2_with fail
      refine (toWindow_any l p a n c xs b m d ys _ (H1.out.below hB) (H2.out.below hB)).mono ?_
      rintro e w5 ⟨v, v', rfl, o, o', hb5⟩
      obtain ⟨a3, c3, rfl, r5⟩ := own_rd o (by omega)
      obtain ⟨b3, d3, rfl, r6⟩ := own_rd o' (by omega)
      clear o o'
      obtain ⟨hc_hb5, hf_hb5⟩ := bcell hb5; have hs_hb5_0 : w.heap.size < w5.heap.size := (by (have := hb5.size; first | omega | (simp at this; omega))); have hs_hb5_1 : w.heap.size + 1 < w5.heap.size := (by (have := hb5.size; first | omega | (simp at this; omega)))
      have hB5 : Below w.heap.size w w5 := below_next hB hb5
      go_wp2_with fail
      refine (toWindow_any l' p' a' n' c' xs' b' m' d' ys' _ (H3.out.below (by (repeat (first | exact Below.refl _ _ | assumption | apply Below.drew | apply below_drewN' | apply below_alloc' | refine below_next ?_ (by assumption) | refine Below.setCell ?_ (by first | omega | (simp; omega) | simp) _)))) (H4.out.below (by (repeat (first | exact Below.refl _ _ | assumption | apply Below.drew | apply below_drewN' | apply below_alloc' | refine below_next ?_ (by assumption) | refine Below.setCell ?_ (by first | omega | (simp; omega) | simp) _))))).mono ?_
      rintro e w6 ⟨v, v', rfl, o, o', hb6⟩
      obtain ⟨a4, c4, rfl, r7⟩ := own_rd o (by omega)
      obtain ⟨b4, d4, rfl, r8⟩ := own_rd o' (by omega)
      clear o o'
      obtain ⟨hc_hb6, hf_hb6⟩ := bcell hb6; have hs_hb6_0 : w.heap.size < w6.heap.size := (by (have := hb6.size; first | omega | (simp at this; omega))); have hs_hb6_1 : w.heap.size + 1 < w6.heap.size := (by (have := hb6.size; first | omega | (simp at this; omega)))
      have hx0 : w5.heap.size < w6.heap.size := by have := hb6.size; simp at this; omega
      have hB56 : Below w5.heap.size w5 w6 := below_next (by (repeat (first | exact Below.refl _ _ | assumption | apply Below.drew | apply below_drewN' | apply below_alloc' | refine below_next ?_ (by assumption) | refine Below.setCell ?_ (by first | omega | (simp; omega) | simp) _))) hb6
      have hB6 : Below w.heap.size w w6 := below_next hB5 hB56
      have r5' := r5.below hB56
      have r6' := r6.below hB56
      clear r5 r6
      go_wp2_with fail
      refine (iSameWindow_any l p a3 n c3 xs b3 m d3 ys l' p' a4 n' c4 xs' b4 m' d4 ys' _ (r5'.below (by (repeat (first | exact Below.refl _ _ | assumption | apply Below.drew | apply below_drewN' | apply below_alloc' | refine below_next ?_ (by assumption) | refine Below.setCell ?_ (by first | omega | (simp; omega) | simp) _)))) (r6'.below (by (repeat (first | exact Below.refl _ _ | assumption | apply Below.drew | apply below_drewN' | apply below_alloc' | refine below_next ?_ (by assumption) | refine Below.setCell ?_ (by first | omega | (simp; omega) | simp) _)))) (r7.below (by (repeat (first | exact Below.refl _ _ | assumption | apply Below.drew | apply below_drewN' | apply below_alloc' | refine below_next ?_ (by assumption) | refine Below.setCell ?_ (by first | omega | (simp; omega) | simp) _)))) (r8.below (by (repeat (first | exact Below.refl _ _ | assumption | apply Below.drew | apply below_drewN' | apply below_alloc' | refine below_next ?_ (by assumption) | refine Below.setCell ?_ (by first | omega | (simp; omega) | simp) _))))).mono ?_
      rintro e w7 ⟨rfl, hb7⟩
      obtain ⟨hc_hb7, hf_hb7⟩ := bcell hb7; have hs_hb7_0 : w.heap.size < w7.heap.size := (by (have := hb7.size; first | omega | (simp at this; omega))); have hs_hb7_1 : w.heap.size + 1 < w7.heap.size := (by (have := hb7.size; first | omega | (simp at this; omega)))
      have hx0' : w5.heap.size < w7.heap.size := by have := hb7.size; simp at this; omega
      have hx1' : w6.heap.size < w7.heap.size := by have := hb7.size; simp at this; omega
      have hB67 : Below w6.heap.size w6 w7 := below_next (by (repeat (first | exact Below.refl _ _ | assumption | apply Below.drew | apply below_drewN' | apply below_alloc' | refine below_next ?_ (by assumption) | refine Below.setCell ?_ (by first | omega | (simp; omega) | simp) _))) hb7
      have hB7 : Below w.heap.size w w7 := below_next hB6 hB67
      have R5 := Lib.hid (r5'.below hB67)
      have R6 := Lib.hid (r6'.below hB67)
      have R7 := Lib.hid (r7.below hB67)
      have R8 := Lib.hid (r8.below hB67)
      clear r5' r6' r7 r8
      go_wp2_with fail
      refine wp_world (fun W eW => ?_)
      have hC0 : W.cell? ⟨w5.heap.size, 0, none⟩ = some (.int .i64 l) := by first | (rw [eW]; assumption) | (rw [eW]; go_simp; done) | (subst eW; go_simp; done)
      have hC1 : W.cell? ⟨w5.heap.size, 1, none⟩ = some (.int .i64 p) := by first | (rw [eW]; assumption) | (rw [eW]; go_simp; done) | (subst eW; go_simp; done)
      have hC2 : W.cell? ⟨w5.heap.size, 2, none⟩ = some (.slice a3 n c3) := by first | (rw [eW]; assumption) | (rw [eW]; go_simp; done) | (subst eW; go_simp; done)
      have hC3 : W.cell? ⟨w5.heap.size, 3, none⟩ = some (.slice b3 m d3) := by first | (rw [eW]; assumption) | (rw [eW]; go_simp; done) | (subst eW; go_simp; done)
      have hC4 : W.cell? ⟨w.heap.size, 0, none⟩ = some (.int .i64 l) := by first | (rw [eW]; assumption) | (rw [eW]; go_simp; done) | (subst eW; go_simp; done)
      have hC5 : W.cell? ⟨w.heap.size, 1, none⟩ = some (.int .i64 p) := by first | (rw [eW]; assumption) | (rw [eW]; go_simp; done) | (subst eW; go_simp; done)
      have hC6 : W.cell? ⟨w.heap.size, 2, none⟩ = some (.slice a n c) := by first | (rw [eW]; assumption) | (rw [eW]; go_simp; done) | (subst eW; go_simp; done)
      have hC7 : W.cell? ⟨w.heap.size, 3, none⟩ = some (.slice b m d) := by first | (rw [eW]; assumption) | (rw [eW]; go_simp; done) | (subst eW; go_simp; done)
      have hZ0 : w5.heap.size < W.heap.size := by first | (rw [eW]; assumption) | (rw [eW]; simp; done) | (rw [eW]; simp; omega) | (rw [eW]; omega)
      have hZ1 : w.heap.size < W.heap.size := by first | (rw [eW]; assumption) | (rw [eW]; simp; done) | (rw [eW]; simp; omega) | (rw [eW]; omega)
      have hB : Below w.heap.size w W := by rw [eW]; (repeat (first | exact Below.refl _ _ | assumption | apply Below.drew | apply below_drewN' | apply below_alloc' | refine below_next ?_ (by assumption) | refine Below.setCell ?_ (by first | omega | (simp; omega) | simp) _))
      have allS : ∀ w' : World, Below W.heap.size W w' → (w'.cell? ⟨w5.heap.size, 0, none⟩ = some (.int .i64 l) ∧ w'.cell? ⟨w5.heap.size, 1, none⟩ = some (.int .i64 p) ∧ w'.cell? ⟨w5.heap.size, 2, none⟩ = some (.slice a3 n c3) ∧ w'.cell? ⟨w5.heap.size, 3, none⟩ = some (.slice b3 m d3) ∧ w'.cell? ⟨w.heap.size, 0, none⟩ = some (.int .i64 l) ∧ w'.cell? ⟨w.heap.size, 1, none⟩ = some (.int .i64 p) ∧ w'.cell? ⟨w.heap.size, 2, none⟩ = some (.slice a n c) ∧ w'.cell? ⟨w.heap.size, 3, none⟩ = some (.slice b m d) ∧ Hid (Below W.heap.size W w')) := fun w' hb => by
        obtain ⟨hc, _⟩ := bcell hb
        exact ⟨(hc _ _ hZ0).trans hC0, (hc _ _ hZ0).trans hC1, (hc _ _ hZ0).trans hC2, (hc _ _ hZ0).trans hC3, (hc _ _ hZ1).trans hC4, (hc _ _ hZ1).trans hC5, (hc _ _ hZ1).trans hC6, (hc _ _ hZ1).trans hC7, hb⟩
      have HallS := Lib.hid allS
      have HW := Lib.hid eW
      clear allS eW
      go_region_held3 (fun w' => w'.cell? ⟨w5.heap.size, 0, none⟩ = some (.int .i64 l) ∧ w'.cell? ⟨w5.heap.size, 1, none⟩ = some (.int .i64 p) ∧ w'.cell? ⟨w5.heap.size, 2, none⟩ = some (.slice a3 n c3) ∧ w'.cell? ⟨w5.heap.size, 3, none⟩ = some (.slice b3 m d3) ∧ w'.cell? ⟨w.heap.size, 0, none⟩ = some (.int .i64 l) ∧ w'.cell? ⟨w.heap.size, 1, none⟩ = some (.int .i64 p) ∧ w'.cell? ⟨w.heap.size, 2, none⟩ = some (.slice a n c) ∧ w'.cell? ⟨w.heap.size, 3, none⟩ = some (.slice b m d) ∧ Hid (Below W.heap.size W w'))
        (first | exact HallS.out _ (by (repeat (first | exact Below.refl _ _ | assumption | apply Below.drew | apply below_drewN' | apply below_alloc' | refine below_next ?_ (by assumption) | refine Below.setCell ?_ (by first | omega | (simp; omega) | simp) _))) | (go_split_ands; exact HallS.out _ (below_next (Hid.out (by assumption)) (by (repeat (first | exact Below.refl _ _ | assumption | apply Below.drew | apply below_drewN' | apply below_alloc' | refine below_next ?_ (by assumption) | refine Below.setCell ?_ (by first | omega | (simp; omega) | simp) _))))))
        ((first | (go_at_call 28; go_split_ands; (with_reducible refine (toWindow_any l p a n c xs b m d ys _ (H1.out.below (below_next hB (Hid.out (by assumption)))) (H2.out.below (below_next hB (Hid.out (by assumption))))).mono ?_); rintro e w' ⟨v, v', rfl, o, o', hb⟩; obtain ⟨a1, c1, rfl, r1⟩ := own_rd o (by omega); obtain ⟨b1, d1, rfl, r2⟩ := own_rd o' (by omega)) | (go_at_call 30; go_split_ands; refine (eqWindow_same l p a3 n c3 xs b3 m d3 ys a1 c1 b1 d1 _ (R5.out.below (bwy HW (Hid.out (by assumption)))) (R6.out.below (bwy HW (Hid.out (by assumption)))) r1 r2).mono ?_; rintro e w' ⟨rfl, hb⟩)))
      go_split_ands
      have hB := below_next hB (Hid.out (by assumption))
      have hZ0 : w5.heap.size < _ := Nat.lt_of_lt_of_le hZ0 (Below.size (Hid.out (by assumption)))
      have hZ1 : w.heap.size < _ := Nat.lt_of_lt_of_le hZ1 (Below.size (Hid.out (by assumption)))
      clear HallS
      have hb8 := bwy HW (Hid.out (by assumption))
      obtain ⟨hc8, hf8⟩ := bcell hb8
      have hs8 := hb8.size
      have hz1 : w6.heap.size < _ := Nat.lt_of_lt_of_le hx1' hs8
      have hz2 : w.heap.size + 1 < _ := Nat.lt_of_lt_of_le hs_hb7_1 hs8
      clear HW
      go_wp2_with fail
      refine wp_world (fun W eW => ?_)
      have hC0 : W.cell? ⟨w6.heap.size, 0, none⟩ = some (.int .i64 l') := by first | (rw [eW]; assumption) | (rw [eW]; go_simp; done) | (subst eW; go_simp; done)
      have hC1 : W.cell? ⟨w6.heap.size, 1, none⟩ = some (.int .i64 p') := by first | (rw [eW]; assumption) | (rw [eW]; go_simp; done) | (subst eW; go_simp; done)
      have hC2 : W.cell? ⟨w6.heap.size, 2, none⟩ = some (.slice a4 n' c4) := by first | (rw [eW]; assumption) | (rw [eW]; go_simp; done) | (subst eW; go_simp; done)
      have hC3 : W.cell? ⟨w6.heap.size, 3, none⟩ = some (.slice b4 m' d4) := by first | (rw [eW]; assumption) | (rw [eW]; go_simp; done) | (subst eW; go_simp; done)
      have hC4 : W.cell? ⟨w.heap.size + 1, 0, none⟩ = some (.int .i64 l') := by first | (rw [eW]; assumption) | (rw [eW]; go_simp; done) | (subst eW; go_simp; done)
      have hC5 : W.cell? ⟨w.heap.size + 1, 1, none⟩ = some (.int .i64 p') := by first | (rw [eW]; assumption) | (rw [eW]; go_simp; done) | (subst eW; go_simp; done)
      have hC6 : W.cell? ⟨w.heap.size + 1, 2, none⟩ = some (.slice a' n' c') := by first | (rw [eW]; assumption) | (rw [eW]; go_simp; done) | (subst eW; go_simp; done)
      have hC7 : W.cell? ⟨w.heap.size + 1, 3, none⟩ = some (.slice b' m' d') := by first | (rw [eW]; assumption) | (rw [eW]; go_simp; done) | (subst eW; go_simp; done)
      have hZ0 : w6.heap.size < W.heap.size := by first | (rw [eW]; assumption) | (rw [eW]; simp; done) | (rw [eW]; simp; omega) | (rw [eW]; omega)
      have hZ1 : w.heap.size + 1 < W.heap.size := by first | (rw [eW]; assumption) | (rw [eW]; simp; done) | (rw [eW]; simp; omega) | (rw [eW]; omega)
      have hB : Below w.heap.size w W := by rw [eW]; (repeat (first | exact Below.refl _ _ | assumption | apply Below.drew | apply below_drewN' | apply below_alloc' | refine below_next ?_ (by assumption) | refine Below.setCell ?_ (by first | omega | (simp; omega) | simp) _))
      have allS : ∀ w' : World, Below W.heap.size W w' → (w'.cell? ⟨w6.heap.size, 0, none⟩ = some (.int .i64 l') ∧ w'.cell? ⟨w6.heap.size, 1, none⟩ = some (.int .i64 p') ∧ w'.cell? ⟨w6.heap.size, 2, none⟩ = some (.slice a4 n' c4) ∧ w'.cell? ⟨w6.heap.size, 3, none⟩ = some (.slice b4 m' d4) ∧ w'.cell? ⟨w.heap.size + 1, 0, none⟩ = some (.int .i64 l') ∧ w'.cell? ⟨w.heap.size + 1, 1, none⟩ = some (.int .i64 p') ∧ w'.cell? ⟨w.heap.size + 1, 2, none⟩ = some (.slice a' n' c') ∧ w'.cell? ⟨w.heap.size + 1, 3, none⟩ = some (.slice b' m' d') ∧ Hid (Below W.heap.size W w')) := fun w' hb => by
        obtain ⟨hc, _⟩ := bcell hb
        exact ⟨(hc _ _ hZ0).trans hC0, (hc _ _ hZ0).trans hC1, (hc _ _ hZ0).trans hC2, (hc _ _ hZ0).trans hC3, (hc _ _ hZ1).trans hC4, (hc _ _ hZ1).trans hC5, (hc _ _ hZ1).trans hC6, (hc _ _ hZ1).trans hC7, hb⟩
      have HallS := Lib.hid allS
      have HW := Lib.hid eW
      clear allS eW
      go_region_held3 (fun w' => w'.cell? ⟨w6.heap.size, 0, none⟩ = some (.int .i64 l') ∧ w'.cell? ⟨w6.heap.size, 1, none⟩ = some (.int .i64 p') ∧ w'.cell? ⟨w6.heap.size, 2, none⟩ = some (.slice a4 n' c4) ∧ w'.cell? ⟨w6.heap.size, 3, none⟩ = some (.slice b4 m' d4) ∧ w'.cell? ⟨w.heap.size + 1, 0, none⟩ = some (.int .i64 l') ∧ w'.cell? ⟨w.heap.size + 1, 1, none⟩ = some (.int .i64 p') ∧ w'.cell? ⟨w.heap.size + 1, 2, none⟩ = some (.slice a' n' c') ∧ w'.cell? ⟨w.heap.size + 1, 3, none⟩ = some (.slice b' m' d') ∧ Hid (Below W.heap.size W w'))
        (first | exact HallS.out _ (by (repeat (first | exact Below.refl _ _ | assumption | apply Below.drew | apply below_drewN' | apply below_alloc' | refine below_next ?_ (by assumption) | refine Below.setCell ?_ (by first | omega | (simp; omega) | simp) _))) | (go_split_ands; exact HallS.out _ (below_next (Hid.out (by assumption)) (by (repeat (first | exact Below.refl _ _ | assumption | apply Below.drew | apply below_drewN' | apply below_alloc' | refine below_next ?_ (by assumption) | refine Below.setCell ?_ (by first | omega | (simp; omega) | simp) _))))))
        ((first | (go_at_call 28; go_split_ands; (with_reducible refine (toWindow_any l' p' a' n' c' xs' b' m' d' ys' _ (H3.out.below (below_next hB (Hid.out (by assumption)))) (H4.out.below (below_next hB (Hid.out (by assumption))))).mono ?_); rintro e w' ⟨v, v', rfl, o, o', hb⟩; obtain ⟨a1, c1, rfl, r1⟩ := own_rd o (by omega); obtain ⟨b1, d1, rfl, r2⟩ := own_rd o' (by omega)) | (go_at_call 30; go_split_ands; refine (eqWindow_same l' p' a4 n' c4 xs' b4 m' d4 ys' a1 c1 b1 d1 _ (R7.out.below (below_next hb8 (bwy HW (Hid.out (by assumption))))) (R8.out.below (below_next hb8 (bwy HW (Hid.out (by assumption))))) r1 r2).mono ?_; rintro e w' ⟨rfl, hb⟩)))
      go_split_ands
      have hB := below_next hB (Hid.out (by assumption))
      have hZ0 : w6.heap.size < _ := Nat.lt_of_lt_of_le hZ0 (Below.size (Hid.out (by assumption)))
      have hZ1 : w.heap.size + 1 < _ := Nat.lt_of_lt_of_le hZ1 (Below.size (Hid.out (by assumption)))
      clear HallS
      go_wp2
      go_ret
      exact ⟨rfl, hB⟩

set_option maxRecDepth 100000 in
theorem openFnExactSameWindow {H : Type} {enc : TypeId × Value → H} {W : World} {base : Nat} {args : Array Value} {ds gs : List (DataW H)} {before : List MemPlace}
    (hval : ∀ (j : Nat) t v, Try.f7.params[j]? = some t → args[j]? = some v → Value.okWide Try.prog W .any base t v)
    (hW : DataW.Whole enc Try.prog Try.f7.params.toList Rows.fnExactSameWindowSpec.vars false W args.toList ds gs before) :
    Calls Try.prog 7 args W fun e W' => e = .returned (.bool true) ∧ Below W.heap.size W W' := by
  have hW0 := hW
  obtain ⟨p, q, hA, hV, rfl, hfz, hnd⟩ := hW
  rw [Try.params7] at hA hval
  obtain ⟨v0, vs0, d0, ds0, p0, q0, hargs, rfl, rfl, h0, r0⟩ := trodAll_cons hA
  obtain ⟨v1, vs1, d1, ds1, p1, q1, rfl, rfl, rfl, h1, r1⟩ := trodAll_cons r0
  obtain ⟨rfl, rfl, rfl⟩ := trodAll_nil r1
  obtain rfl : args = #[v0, v1] := by cases args; simp_all
  obtain ⟨l, p, a, n, c, xs, b, m, d, ys, rfl, hn, hm, h1', h2', _⟩ := open_Window (hval 0 40 v0 rfl rfl) h0
  obtain ⟨l', p', a', n', c', xs', b', m', d', ys', rfl, hn', hm', h3', h4', _⟩ := open_Window (hval 1 40 v1 rfl rfl) h1
  exact walkSameWindow l p a n c xs b m d ys l' p' a' n' c' xs' b' m' d' ys' W hn hm hn' hm' h1' h2' h3' h4'

set_option maxRecDepth 100000 in
theorem liftedFnExactSameWindow (os : Os) (started : os.Started) (H : Type) (enc : TypeId × Value → H) :
    ReturnsInHanded {} Try.checked os 7 .any (Rows.fnExactSameWindowSpec.pre6 enc Try.prog Try.f7 Rows.fnExactSameWindowRow.domain false) (Rows.fnExactSameWindowSpec.post enc Try.prog Try.f7 false true false false) := by
  refine returnsInHanded_of_change_sized (C := Try.checked) own started (by kernel_rfl) Try.func7
    (ChangeSpec.witness6 (enc := enc) (C := Try.checked) false ⟨#[], #[.agg #[.int .i64 0, .int .i64 0, .slice none 0 0, .slice none 0 0], .agg #[.int .i64 0, .int .i64 0, .slice none 0 0, .slice none 0 0]], []⟩ 8 (by kernel_rfl) (by kernel_rfl) (by kernel_rfl) (by kernel_rfl)) ?_
  intro W base args ds gs before hval hW _ hsz _
  have hr : ∀ t ∈ Try.f7.params.toList, Try.prog.readableRec t = true ∧ t < Try.prog.types.size := by
    rw [Try.params7]
    intro t ht
    simp only [List.mem_cons, List.not_mem_nil, or_false] at ht
    rcases ht with rfl | rfl
    all_goals exact ⟨by kernel_rfl, of_decide_eq_true (by kernel_rfl)⟩
  refine (openFnExactSameWindow hval hW).mono fun e W' ⟨he, hb⟩ => ⟨_, he, ?_⟩
  refine law_post laidOut rfl hr rfl Try.underlying4 hW hb ?_
  obtain ⟨p, q, hA, hV, _⟩ := hW
  obtain ⟨rfl, _⟩ := trodVars_none hV
  rw [Try.params7] at hA
  obtain ⟨v0, vs0, d0, ds0, p0, q0, _, rfl, _, h0, r0⟩ := trodAll_cons hA
  obtain ⟨v1, vs1, d1, ds1, p1, q1, _, rfl, _, h1, r1⟩ := trodAll_cons r0
  obtain ⟨_, rfl, _⟩ := trodAll_nil r1
  rfl

theorem provedFnExactSameWindow : Rows.FnExactSameWindowSaid :=
  OpenClaim.holds_of_wide 7 Try.f7 rfl rfl rfl rfl rfl rfl rfl ⟨rfl, rfl, rfl, rfl, rfl⟩ rfl rfl rfl rfl rfl (by kernel_rfl) Try.func7 (by kernel_rfl)
    (of_decide_eq_true (by kernel_rfl)) (by unfold Func.isWrapper; first | (rw [if_pos (by decide +kernel)]; kernel_rfl) | (rw [if_neg (by decide +kernel)]; exact ⟨rfl, rfl⟩))
    (fun os started H enc _ => liftedFnExactSameWindow os started H enc)
#print axioms provedFnExactSameWindow


end Go.Proofs.Ytajekmpjebhaoaa
