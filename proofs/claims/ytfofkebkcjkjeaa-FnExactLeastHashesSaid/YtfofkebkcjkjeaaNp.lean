/- The abstract machine: drawn regions beside rows that grow. -/
import Derived.Test.YtfofkebkcjkjeaaAw
namespace Go.Proofs.Ytfofkebkcjkjeaa
open Go.RowKit
set_option linter.unusedSimpArgs false
set_option linter.unusedVariables false
set_option linter.unusedSectionVars false
set_option maxRecDepth 100000

section
variable {P : Program} {T : Tab} {ops : List Oper}
theorem AW_treeP1 (hT : TabOk P T) {He H0 R : Hp} {o0 : AO} {id : Nat} {tm tm1 : List LV} {H1 : Hp} {Q : Exit → List LV → Hp → Prop} (n z : Nat) (hm : P.follows .mixedOrders = true) (hn : ops.length = n)
    (h : AAnyX P T .any ops z (H0 ++ [o0]) n (Array.replicate n false) tm (H0 ++ (o0 :: R)) fun tm' H' => Wk He tm' H' tm1 H1) (hq : Q .normal tm1 H1) : AW P He (.region id ops.toArray true) tm (H0 ++ (o0 :: R)) Q :=
  AW_treeW hT n hm hn (AAnyX_any h) hq
theorem AW_treeP2 (hT : TabOk P T) {He H0 R : Hp} {o0 o1 : AO} {id : Nat} {tm tm1 : List LV} {H1 : Hp} {Q : Exit → List LV → Hp → Prop} (n z : Nat) (hm : P.follows .mixedOrders = true) (hn : ops.length = n)
    (h : AAnyX P T .any ops z (H0 ++ [o0, o1]) n (Array.replicate n false) tm (H0 ++ (o0 :: o1 :: R)) fun tm' H' => Wk He tm' H' tm1 H1) (hq : Q .normal tm1 H1) : AW P He (.region id ops.toArray true) tm (H0 ++ (o0 :: o1 :: R)) Q :=
  AW_treeW hT n hm hn (AAnyX_any h) hq
theorem AW_treeP3 (hT : TabOk P T) {He H0 R : Hp} {o0 o1 o2 : AO} {id : Nat} {tm tm1 : List LV} {H1 : Hp} {Q : Exit → List LV → Hp → Prop} (n z : Nat) (hm : P.follows .mixedOrders = true) (hn : ops.length = n)
    (h : AAnyX P T .any ops z (H0 ++ [o0, o1, o2]) n (Array.replicate n false) tm (H0 ++ (o0 :: o1 :: o2 :: R)) fun tm' H' => Wk He tm' H' tm1 H1) (hq : Q .normal tm1 H1) : AW P He (.region id ops.toArray true) tm (H0 ++ (o0 :: o1 :: o2 :: R)) Q :=
  AW_treeW hT n hm hn (AAnyX_any h) hq
theorem AW_treeP4 (hT : TabOk P T) {He H0 R : Hp} {o0 o1 o2 o3 : AO} {id : Nat} {tm tm1 : List LV} {H1 : Hp} {Q : Exit → List LV → Hp → Prop} (n z : Nat) (hm : P.follows .mixedOrders = true) (hn : ops.length = n)
    (h : AAnyX P T .any ops z (H0 ++ [o0, o1, o2, o3]) n (Array.replicate n false) tm (H0 ++ (o0 :: o1 :: o2 :: o3 :: R)) fun tm' H' => Wk He tm' H' tm1 H1) (hq : Q .normal tm1 H1) : AW P He (.region id ops.toArray true) tm (H0 ++ (o0 :: o1 :: o2 :: o3 :: R)) Q :=
  AW_treeW hT n hm hn (AAnyX_any h) hq
theorem AW_treeP5 (hT : TabOk P T) {He H0 R : Hp} {o0 o1 o2 o3 o4 : AO} {id : Nat} {tm tm1 : List LV} {H1 : Hp} {Q : Exit → List LV → Hp → Prop} (n z : Nat) (hm : P.follows .mixedOrders = true) (hn : ops.length = n)
    (h : AAnyX P T .any ops z (H0 ++ [o0, o1, o2, o3, o4]) n (Array.replicate n false) tm (H0 ++ (o0 :: o1 :: o2 :: o3 :: o4 :: R)) fun tm' H' => Wk He tm' H' tm1 H1) (hq : Q .normal tm1 H1) : AW P He (.region id ops.toArray true) tm (H0 ++ (o0 :: o1 :: o2 :: o3 :: o4 :: R)) Q :=
  AW_treeW hT n hm hn (AAnyX_any h) hq
theorem AW_treeP6 (hT : TabOk P T) {He H0 R : Hp} {o0 o1 o2 o3 o4 o5 : AO} {id : Nat} {tm tm1 : List LV} {H1 : Hp} {Q : Exit → List LV → Hp → Prop} (n z : Nat) (hm : P.follows .mixedOrders = true) (hn : ops.length = n)
    (h : AAnyX P T .any ops z (H0 ++ [o0, o1, o2, o3, o4, o5]) n (Array.replicate n false) tm (H0 ++ (o0 :: o1 :: o2 :: o3 :: o4 :: o5 :: R)) fun tm' H' => Wk He tm' H' tm1 H1) (hq : Q .normal tm1 H1) : AW P He (.region id ops.toArray true) tm (H0 ++ (o0 :: o1 :: o2 :: o3 :: o4 :: o5 :: R)) Q :=
  AW_treeW hT n hm hn (AAnyX_any h) hq
end
end Go.Proofs.Ytfofkebkcjkjeaa
