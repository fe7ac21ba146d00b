/- The program's SameDecay returns what the reference's returns, for all arguments; no condition. -/
import Derived.Test.YtajekmpjebhaoaaArgD
import Derived.Test.YtajekmpjebhaoaaSame
namespace Go.Proofs.Ytajekmpjebhaoaa
open Go.ChangeShapes Go.WideShapes Go.ChangeAt Go.RowKit
set_option linter.unusedSimpArgs false
set_option linter.unusedVariables false

def sdec (h s : Nat) (m : Int) (h' s' : Nat) (m' : Int) : Bool := sameN h h' && sameN s s' && m == m'

theorem sSameDecay_any (h s : Nat) (m : Int) (h' s' : Nat) (m' : Int) (b1 : h < 4294967296) (b2 : s < 4294967296) (b3 : h' < 4294967296) (b4 : s' < 4294967296) (w : World) :
    Calls Try.prog 18 #[.agg #[.float .f32 h, .float .f32 s, .int .i64 m], .agg #[.float .f32 h', .float .f32 s', .int .i64 m']] w fun e w' => e = .returned (.bool (sdec h s m h' s' m')) ∧ Below w.heap.size w w' := by
  go_enter Try.func18, Try.ntmps18
  go_wp2_with (first | (go_at_call 68; (with_reducible refine (l01Same_any h h' b1 b3 _).mono ?_); rintro e w' ⟨rfl, rfl⟩) | (go_at_call 68; (with_reducible refine (l01Same_any s s' b2 b4 _).mono ?_); rintro e w' ⟨rfl, rfl⟩))
  all_goals go_ret
  all_goals (refine ⟨?_, by (repeat (first | exact Below.refl _ _ | assumption | apply Below.drew | apply below_drewN' | apply below_alloc' | refine below_next ?_ (by assumption) | refine Below.setCell ?_ (by first | omega | (simp; omega) | simp) _))⟩; simp_all [sdec])

theorem iSameDecay_any (h s : Nat) (m : Int) (h' s' : Nat) (m' : Int) (b1 : h < 4294967296) (b2 : s < 4294967296) (b3 : h' < 4294967296) (b4 : s' < 4294967296) (w : World) :
    Calls Try.prog 19 #[.agg #[.float .f32 h, .float .f32 s, .int .i64 m], .agg #[.float .f32 h', .float .f32 s', .int .i64 m']] w fun e w' => e = .returned (.bool (sdec h s m h' s' m')) ∧ Below w.heap.size w w' := by
  go_enter Try.func19, Try.ntmps19
  go_wp2_with (first | (go_at_call 69; (with_reducible refine (SameNumber_any h h' b1 b3 _).mono ?_); rintro e w' ⟨rfl, rfl⟩) | (go_at_call 69; (with_reducible refine (SameNumber_any s s' b2 b4 _).mono ?_); rintro e w' ⟨rfl, rfl⟩))
  all_goals go_ret
  all_goals (refine ⟨?_, by (repeat (first | exact Below.refl _ _ | assumption | apply Below.drew | apply below_drewN' | apply below_alloc' | refine below_next ?_ (by assumption) | refine Below.setCell ?_ (by first | omega | (simp; omega) | simp) _))⟩; simp_all [sdec])

theorem walkSdec (h s : Nat) (m : Int) (h' s' : Nat) (m' : Int) (b1 : h < 4294967296) (b2 : s < 4294967296) (b3 : h' < 4294967296) (b4 : s' < 4294967296) (w : World) :
    Calls Try.prog 4 #[.agg #[.float .f32 h, .float .f32 s, .int .i64 m], .agg #[.float .f32 h', .float .f32 s', .int .i64 m']] w fun e w' => e = .returned (.bool true) ∧ Below w.heap.size w w' := by
  go_enter Try.func4, Try.ntmps4
  go_wp2_with fail
  refine wp_world (fun W eW => ?_)
  have c0 : W.cell? ⟨w.heap.size, 0, none⟩ = some (.float .f32 h) := by first | (rw [eW]; assumption) | (rw [eW]; go_simp) | (subst eW; go_simp)
  have c1 : W.cell? ⟨w.heap.size, 1, none⟩ = some (.float .f32 s) := by first | (rw [eW]; assumption) | (rw [eW]; go_simp) | (subst eW; go_simp)
  have c2 : W.cell? ⟨w.heap.size, 2, none⟩ = some (.int .i64 m) := by first | (rw [eW]; assumption) | (rw [eW]; go_simp) | (subst eW; go_simp)
  have c3 : W.cell? ⟨w.heap.size + 1, 0, none⟩ = some (.float .f32 h') := by first | (rw [eW]; assumption) | (rw [eW]; go_simp) | (subst eW; go_simp)
  have c4 : W.cell? ⟨w.heap.size + 1, 1, none⟩ = some (.float .f32 s') := by first | (rw [eW]; assumption) | (rw [eW]; go_simp) | (subst eW; go_simp)
  have c5 : W.cell? ⟨w.heap.size + 1, 2, none⟩ = some (.int .i64 m') := by first | (rw [eW]; assumption) | (rw [eW]; go_simp) | (subst eW; go_simp)
  have hz : w.heap.size + 1 < W.heap.size := by first | (rw [eW]; simp; done) | (rw [eW]; simp; omega) | (rw [eW]; omega)
  have hB : Below w.heap.size w W := by rw [eW]; (repeat (first | exact Below.refl _ _ | assumption | apply Below.drew | apply below_drewN' | apply below_alloc' | refine below_next ?_ (by assumption) | refine Below.setCell ?_ (by first | omega | (simp; omega) | simp) _))
  have allS : ∀ w' : World, Below W.heap.size W w' → (w'.cell? ⟨w.heap.size, 0, none⟩ = some (.float .f32 h) ∧ w'.cell? ⟨w.heap.size, 1, none⟩ = some (.float .f32 s) ∧ w'.cell? ⟨w.heap.size, 2, none⟩ = some (.int .i64 m) ∧ w'.cell? ⟨w.heap.size + 1, 0, none⟩ = some (.float .f32 h') ∧ w'.cell? ⟨w.heap.size + 1, 1, none⟩ = some (.float .f32 s') ∧ w'.cell? ⟨w.heap.size + 1, 2, none⟩ = some (.int .i64 m') ∧ Hid (Below W.heap.size W w')) := fun w' hb => by
    obtain ⟨hc, _⟩ := bcell hb
    exact ⟨(hc _ _ (by omega)).trans c0, (hc _ _ (by omega)).trans c1, (hc _ _ (by omega)).trans c2, (hc _ _ (by omega)).trans c3, (hc _ _ (by omega)).trans c4, (hc _ _ (by omega)).trans c5, hb⟩
  have HallS := Lib.hid allS
  clear allS eW
  go_region_held3 (fun w' => w'.cell? ⟨w.heap.size, 0, none⟩ = some (.float .f32 h) ∧ w'.cell? ⟨w.heap.size, 1, none⟩ = some (.float .f32 s) ∧ w'.cell? ⟨w.heap.size, 2, none⟩ = some (.int .i64 m) ∧ w'.cell? ⟨w.heap.size + 1, 0, none⟩ = some (.float .f32 h') ∧ w'.cell? ⟨w.heap.size + 1, 1, none⟩ = some (.float .f32 s') ∧ w'.cell? ⟨w.heap.size + 1, 2, none⟩ = some (.int .i64 m') ∧ Hid (Below W.heap.size W w'))
    (first | exact HallS.out _ (by (repeat (first | exact Below.refl _ _ | assumption | apply Below.drew | apply below_drewN' | apply below_alloc' | refine below_next ?_ (by assumption) | refine Below.setCell ?_ (by first | omega | (simp; omega) | simp) _))) | (go_split_ands; exact HallS.out _ (below_next (Hid.out (by assumption)) (by (repeat (first | exact Below.refl _ _ | assumption | apply Below.drew | apply below_drewN' | apply below_alloc' | refine below_next ?_ (by assumption) | refine Below.setCell ?_ (by first | omega | (simp; omega) | simp) _))))))
    ((first | (go_at_call 16; refine (toDecay_any _ _ _ _).mono ?_; rintro e w' ⟨rfl, hb⟩) | (go_at_call 18; refine (sSameDecay_any h s m h' s' m' b1 b2 b3 b4 _).mono ?_; rintro e w' ⟨rfl, hb⟩)))
  go_split_ands
  have hB := below_next hB (Hid.out (by assumption))
  have hz : w.heap.size + 1 < _ := Nat.lt_of_lt_of_le hz (Below.size (Hid.out (by assumption)))
  clear HallS
  go_wp2_with fail
  refine wp_world (fun W eW => ?_)
  have c0 : W.cell? ⟨w.heap.size, 0, none⟩ = some (.float .f32 h) := by first | (rw [eW]; assumption) | (rw [eW]; go_simp) | (subst eW; go_simp)
  have c1 : W.cell? ⟨w.heap.size, 1, none⟩ = some (.float .f32 s) := by first | (rw [eW]; assumption) | (rw [eW]; go_simp) | (subst eW; go_simp)
  have c2 : W.cell? ⟨w.heap.size, 2, none⟩ = some (.int .i64 m) := by first | (rw [eW]; assumption) | (rw [eW]; go_simp) | (subst eW; go_simp)
  have c3 : W.cell? ⟨w.heap.size + 1, 0, none⟩ = some (.float .f32 h') := by first | (rw [eW]; assumption) | (rw [eW]; go_simp) | (subst eW; go_simp)
  have c4 : W.cell? ⟨w.heap.size + 1, 1, none⟩ = some (.float .f32 s') := by first | (rw [eW]; assumption) | (rw [eW]; go_simp) | (subst eW; go_simp)
  have c5 : W.cell? ⟨w.heap.size + 1, 2, none⟩ = some (.int .i64 m') := by first | (rw [eW]; assumption) | (rw [eW]; go_simp) | (subst eW; go_simp)
  have hz : w.heap.size + 1 < W.heap.size := by first | (rw [eW]; simp; done) | (rw [eW]; simp; omega) | (rw [eW]; omega)
  have hB : Below w.heap.size w W := by rw [eW]; (repeat (first | exact Below.refl _ _ | assumption | apply Below.drew | apply below_drewN' | apply below_alloc' | refine below_next ?_ (by assumption) | refine Below.setCell ?_ (by first | omega | (simp; omega) | simp) _))
  have allS : ∀ w' : World, Below W.heap.size W w' → (w'.cell? ⟨w.heap.size, 0, none⟩ = some (.float .f32 h) ∧ w'.cell? ⟨w.heap.size, 1, none⟩ = some (.float .f32 s) ∧ w'.cell? ⟨w.heap.size, 2, none⟩ = some (.int .i64 m) ∧ w'.cell? ⟨w.heap.size + 1, 0, none⟩ = some (.float .f32 h') ∧ w'.cell? ⟨w.heap.size + 1, 1, none⟩ = some (.float .f32 s') ∧ w'.cell? ⟨w.heap.size + 1, 2, none⟩ = some (.int .i64 m') ∧ Hid (Below W.heap.size W w')) := fun w' hb => by
    obtain ⟨hc, _⟩ := bcell hb
    exact ⟨(hc _ _ (by omega)).trans c0, (hc _ _ (by omega)).trans c1, (hc _ _ (by omega)).trans c2, (hc _ _ (by omega)).trans c3, (hc _ _ (by omega)).trans c4, (hc _ _ (by omega)).trans c5, hb⟩
  have HallS := Lib.hid allS
  clear allS eW
  go_region_held3 (fun w' => w'.cell? ⟨w.heap.size, 0, none⟩ = some (.float .f32 h) ∧ w'.cell? ⟨w.heap.size, 1, none⟩ = some (.float .f32 s) ∧ w'.cell? ⟨w.heap.size, 2, none⟩ = some (.int .i64 m) ∧ w'.cell? ⟨w.heap.size + 1, 0, none⟩ = some (.float .f32 h') ∧ w'.cell? ⟨w.heap.size + 1, 1, none⟩ = some (.float .f32 s') ∧ w'.cell? ⟨w.heap.size + 1, 2, none⟩ = some (.int .i64 m') ∧ Hid (Below W.heap.size W w'))
    (first | exact HallS.out _ (by (repeat (first | exact Below.refl _ _ | assumption | apply Below.drew | apply below_drewN' | apply below_alloc' | refine below_next ?_ (by assumption) | refine Below.setCell ?_ (by first | omega | (simp; omega) | simp) _))) | (go_split_ands; exact HallS.out _ (below_next (Hid.out (by assumption)) (by (repeat (first | exact Below.refl _ _ | assumption | apply Below.drew | apply below_drewN' | apply below_alloc' | refine below_next ?_ (by assumption) | refine Below.setCell ?_ (by first | omega | (simp; omega) | simp) _))))))
    ((first | (go_at_call 16; refine (toDecay_any _ _ _ _).mono ?_; rintro e w' ⟨rfl, hb⟩) | (go_at_call 19; refine (iSameDecay_any h s m h' s' m' b1 b2 b3 b4 _).mono ?_; rintro e w' ⟨rfl, hb⟩)))
  go_split_ands
  have hB := below_next hB (Hid.out (by assumption))
  have hz : w.heap.size + 1 < _ := Nat.lt_of_lt_of_le hz (Below.size (Hid.out (by assumption)))
  clear HallS
  go_wp2
  go_ret
  exact ⟨rfl, hB⟩

end Go.Proofs.Ytajekmpjebhaoaa
