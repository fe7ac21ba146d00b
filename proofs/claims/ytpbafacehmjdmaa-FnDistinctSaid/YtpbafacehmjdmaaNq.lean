/- The abstract machine: drawn regions whose orders go on each by itself. -/
import Derived.Test.YtpbafacehmjdmaaNk
namespace Go.Proofs.Ytpbafacehmjdmaa
open Go.RowKit
set_option linter.unusedSimpArgs false
set_option linter.unusedVariables false
set_option maxRecDepth 100000

theorem AW_treeQ {P : Program} {T : Tab} {ops : List Oper} {He H : Hp} {id : Nat} {tm : List LV} {Q : Exit → List LV → Hp → Prop} (hT : TabOk P T) (n : Nat) (Z : List Nat) (hm : P.follows .mixedOrders = true) (hn : ops.length = n)
    (h : AAnyN P T .any ops Z H n (Array.replicate n false) tm H (Q .normal)) : AW P He (.region id ops.toArray true) tm H Q := by
  subst hn
  intro w0 μe μ w a h1 h2 h3 h4
  refine wp_region_any hm ?_
  have := AAnyN_sound hT (μ0 := μ) (H0 := H) (d0 := a.defers) (Q' := Post P w0 μe He Q) (fun tm' H' μ' w' a' hk hx hR ha hd =>
    ⟨μ', tm', H', hd.trans h4, h1.trans hx, hR, ha, hk⟩) ops.length _ tm H μ _ a h (Ext.refl _ _) (h2.drewN 1) h3 rfl
  have e : ops.toArray.size = ops.length := by simp
  rw [e]
  exact this
end Go.Proofs.Ytpbafacehmjdmaa
