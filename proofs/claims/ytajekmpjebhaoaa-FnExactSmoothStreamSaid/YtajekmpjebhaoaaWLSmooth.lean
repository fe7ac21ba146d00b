/- SmoothStream: the law's walk. -/
import Derived.Test.YtajekmpjebhaoaaWSmoothS
import Derived.Test.YtajekmpjebhaoaaMark
import Derived.Test.YtajekmpjebhaoaaArgS
import Derived.Test.YtajekmpjebhaoaaTo
namespace Go.Proofs.Ytajekmpjebhaoaa
open Go.RowKit
set_option linter.unusedSimpArgs false
set_option linter.unusedVariables false

theorem smRes_len (sh : Nat) (xs : List Nat) : (smRes sh xs).length ≤ 128 := by
  unfold smRes
  cases e : smOk sh xs
  · simp
  · unfold smOk at e
    simp only [Bool.and_eq_true] at e
    have := (inB_iff' _ _ _).1 e.1
    simp [smL]; omega

set_option maxRecDepth 100000 in
set_option maxHeartbeats 2000000 in
theorem walkFnExactSmoothStream (a : Option Addr) (n cap : Nat) (xs : List Nat) (qs : Nat) (hn : n ≤ 9223372036854775807) (w : World) (h : RdRaw w (Value.float .f32) a n xs) :
    Calls Try.prog 11 #[.slice a n cap, .float .f32 qs] w fun e w' => e = .returned (.bool true) ∧ Below w.heap.size w w' := by
  by_cases hb : n ≤ 1048576
  · have R0 := Lib.hid (h.rd (by omega))
    have hlen : (smRes qs xs).length ≤ 17592186044416 := Nat.le_trans (smRes_len qs xs) (by omega)
    clear h
    go_enter Try.func11, Try.ntmps11
    go_wp2_with fail; refine (toFloat32S_any a n cap xs _ (R0.out)).mono ?_; rintro e w1 ⟨v1, rfl, ho1, hb1⟩
    obtain ⟨a1, c1, rfl, r1⟩ := own_rd ho1 (by omega)
    have R1 := Lib.hid r1; have O1 := Lib.hid ho1; have K1 := Lib.hid (own_blk ho1); have s1 := hb1.size; clear r1 ho1
    go_wp2_with fail; refine (sSmooth_any a1 n c1 xs qs _ (R1.out)).mono ?_; rintro e ww ⟨vw, rfl, how, hbw⟩
    obtain ⟨aw, cw, rfl, rw⟩ := own_rd how hlen
    have Rw := Lib.hid rw; have Ow := Lib.hid how; have Kw := Lib.hid (own_blk how); have sw := hbw.size; clear rw how
    have Bw : Below w.heap.size w ww := below_next hb1 hbw
    go_wp2_with fail; refine (toFloat32S_any a n cap xs _ (R0.out.below Bw)).mono ?_; rintro e w2 ⟨v2, rfl, ho2, hb2⟩
    obtain ⟨a2, c2, rfl, r2⟩ := own_rd ho2 (by omega)
    have R2 := Lib.hid r2; have O2 := Lib.hid ho2; have K2 := Lib.hid (own_blk ho2); have s2 := hb2.size; clear r2 ho2
    have B2 : Below w.heap.size w w2 := below_next Bw hb2
    go_wp2_with fail; refine (iSmooth_any a2 n c2 xs qs _ (R2.out)).mono ?_; rintro e wg ⟨vg, rfl, hog, hbg⟩
    obtain ⟨ag, cg, rfl, rg⟩ := own_rd hog hlen
    have Rg := Lib.hid rg; have Og := Lib.hid hog; have Kg := Lib.hid (own_blk hog); have sg := hbg.size; clear rg hog
    have Bg : Below w.heap.size w wg := below_next B2 hbg
    have b2g : Below ww.heap.size ww wg := below_next hb2 hbg
    go_wp2_with fail; refine (eqFloat32S_same ag _ cg (smRes qs xs) aw _ cw (smRes qs xs) rfl _ (Rg.out) (Rw.out.below b2g)).mono ?_; rintro e wz1 ⟨rfl, m1, rfl⟩
    go_wp2_with fail; refine (toFloat32S_any a n cap xs _ ((R0.out.below Bg).drewN _)).mono ?_; rintro e w3 ⟨v3, rfl, ho3, hb3⟩
    obtain ⟨a3, c3, rfl, r3⟩ := own_rd ho3 (by omega)
    have R3 := Lib.hid r3; have O3 := Lib.hid ho3; have K3 := Lib.hid (own_blk ho3); have s3 := hb3.size; clear r3 ho3
    have Bg3 : Below wg.heap.size wg w3 := below_next (below_drewN' (Below.refl _ _)) hb3
    have B3 : Below w.heap.size w w3 := below_next Bg Bg3
    have b23 : Below w2.heap.size w2 w3 := below_next hbg Bg3
    have bw3 : Below ww.heap.size ww w3 := below_next b2g Bg3
    go_wp2_with fail; refine (eqFloat32S_same a2 n c2 (xs) a3 n c3 (xs) rfl _ (R2.out.below b23) (R3.out)).mono ?_; rintro e wz2 ⟨rfl, m2, rfl⟩
    simp only [World.heap_drewN] at s3
    go_wp2_with fail; refine (markFloat32S_any a2 n c2 xs 1 ww.heap.size _ (own_below O2.out (below_drewN' b23)) (by omega) (by omega) (by omega)).mono ?_; rintro e w4 ⟨rfl, ho4, hg4⟩
    have s4 : w3.heap.size ≤ w4.heap.size := hg4.size
    have B4 : Below w.heap.size w w4 := (below_drewN' B3).grown hg4 (by show w.heap.size ≤ w3.heap.size; omega) (fun k hk => by have := blk_of K2.out hk; omega)
    have Rw4 := Lib.hid ((Rw.out.below (below_drewN' bw3)).kept hg4 (blk_ne (m := ww.heap.size) (fun ad e => (Kw.out ad e).2) (fun ad e => (K2.out ad e).1)))
    have Rg4 := Lib.hid ((Rg.out.below (below_drewN' Bg3)).kept hg4 (blk_ne' (m := w2.heap.size) (fun ad e => (Kg.out ad e).1) (fun ad e => (K2.out ad e).2)))
    have Og4 := Lib.hid ((own_below Og.out (below_drewN' Bg3)).kept hg4 (blk_ne2 (m := w2.heap.size) (fun ad e => (Kg.out ad e).1) (fun ad e => (K2.out ad e).2)))
    clear ho4 hg4
    go_wp2_with fail; refine (eqFloat32S_same ag _ cg (smRes qs xs) aw _ cw (smRes qs xs) rfl _ (Rg4.out) (Rw4.out)).mono ?_; rintro e wz3 ⟨rfl, m3, rfl⟩
    go_wp2_with fail; refine (markFloat32S_any ag _ cg (smRes qs xs) 1 w2.heap.size _ (own_below Og4.out (below_drewN' (Below.refl _ _))) (by omega) (by omega) hlen).mono ?_; rintro e w5 ⟨rfl, ho5, hg5⟩
    have s5 : w4.heap.size ≤ w5.heap.size := hg5.size
    have B5 : Below w.heap.size w w5 := (below_drewN' B4).grown hg5 (by show w.heap.size ≤ w4.heap.size; omega) (fun k hk => by have := blk_of Kg.out hk; omega)
    have Rw5 := Lib.hid ((Rw4.out.drewN m3).kept hg5 (blk_ne (m := w2.heap.size) (fun ad e => by have := (Kw.out ad e).2; omega) (fun ad e => (Kg.out ad e).1)))
    have Rg5 := Lib.hid (own_rd' ho5 hlen)
    clear ho5 hg5
    go_wp2_with fail; refine (heldFloat32S_any ag _ cg 1 _ Rg5.out (by omega) (by omega)).mono ?_; rintro e wz4 ⟨rfl, m4, rfl⟩
    go_wp2_with fail; refine (toFloat32S_any a n cap xs _ ((R0.out.below B5).drewN _)).mono ?_; rintro e w6 ⟨v6, rfl, ho6, hb6⟩
    obtain ⟨a6, c6, rfl, r6⟩ := own_rd ho6 (by omega)
    have R6 := Lib.hid r6; have O6 := Lib.hid ho6; have K6 := Lib.hid (own_blk ho6); have s6 := hb6.size; clear r6 ho6
    have b56 : Below w5.heap.size w5 w6 := below_next (below_drewN' (Below.refl _ _)) hb6
    have B6 : Below w.heap.size w w6 := below_next B5 b56
    go_wp2_with fail; refine (iSmooth_any a6 n c6 xs qs _ (R6.out)).mono ?_; rintro e wh ⟨vh, rfl, hoh, hbh⟩
    obtain ⟨ah, ch, rfl, rh⟩ := own_rd hoh hlen
    have Rh := Lib.hid rh; have Oh := Lib.hid hoh; have Kh := Lib.hid (own_blk hoh); have sh := hbh.size; clear rh hoh
    have b57 : Below w5.heap.size w5 wh := below_next b56 hbh
    have B7 : Below w.heap.size w wh := below_next B6 hbh
    go_wp2_with fail; refine (eqFloat32S_same ah _ ch (smRes qs xs) aw _ cw (smRes qs xs) rfl _ (Rh.out) (Rw5.out.below b57)).mono ?_; rintro e wz5 ⟨rfl, m5, rfl⟩
    go_wp2_with fail; refine (heldFloat32S_any ag _ cg 1 _ ((Rg5.out.below b57).drewN _) (by omega) (by omega)).mono ?_; rintro e wz6 ⟨rfl, m6, rfl⟩
    go_wp2
    all_goals go_ret
    all_goals exact ⟨rfl, by (repeat (first | exact Below.refl _ _ | assumption | apply Below.drew | apply below_drewN' | apply below_alloc' | refine below_next ?_ (by assumption) | refine Below.setCell ?_ (by first | omega | (simp; omega) | simp) _))⟩
  · clear h
    go_enter Try.func11, Try.ntmps11
    go_wp2
    go_ret
    exact ⟨rfl, Below.refl _ _⟩
end Go.Proofs.Ytajekmpjebhaoaa
