/- The abstract machine: what stands between two parts of a code, told by slots. -/
import Derived.Test.YtfofkebkcjkjeaaNp
namespace Go.Proofs.Ytfofkebkcjkjeaa
open Go.RowKit
set_option linter.unusedSimpArgs false
set_option linter.unusedVariables false

/-- The first region's number of a code. -/
def firstR : Code → Nat
  | .region id _ _ => id
  | .seq x _ => firstR x
  | .block _ c => firstR c
  | .loop c => firstR c
  | _ => 1000000
theorem AW_seqN {P : Program} {He H : Hp} {tm : List LV} {Q : Exit → List LV → Hp → Prop} {x y : Code} (L : List Nat) (hn : L.contains (firstR x) = false) (h : ∀ K : List LV → Hp → Prop, (∀ tm H, AW P He y tm H Q → K tm H) → AW P He x tm H (thenA K Q)) : AW P He (.seq x y) tm H Q := AW_seq h
theorem AW_seqM {P : Program} {He H : Hp} {tm : List LV} {Q : Exit → List LV → Hp → Prop} {x y : Code} {ι : Type} (ms : List Nat) (vals : ι → List (Nat × LV)) (Hf : ι → Hp) (ok : ι → Prop)
    (hx : ∀ K : List LV → Hp → Prop, (∀ tm' H' j, ok j → JL tm' (setAll (junkAll tm ms) (vals j)) → H' = Hf j → K tm' H') → AW P He x tm H (thenA K Q))
    (hy : ∀ j, ok j → AW P He y (setAll (junkAll tm ms) (vals j)) (Hf j) Q) : AW P He (.seq x y) tm H Q :=
  AW_seq fun K hK => hx K fun tm' H' j h1 h2 h3 => by
    subst h3
    exact hK _ _ (AW.weak (Wk.junk h2) (hy j h1))
end Go.Proofs.Ytfofkebkcjkjeaa
