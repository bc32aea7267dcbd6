/- Regions in their order, by hand. -/
import Derived.Test.YthpcedficlhanaaGreatDoorReg
namespace Go.Proofs.YthpcedficlhanaaGreatDoor
open Go.RowKit
section
variable {P : Program} {ops : Array Oper} {rest : List Oper} {o : Oper} {a : Act} {w : World} {Q : Exit → Act → World → Prop}
theorem lin_ (N : Option Tmp) (hgd : o.guard = none) (hN : o.dst = N) {v : Value} (hx : (execOp a.eval o).run P w = .ok (.value v) w) {a' : Act} (ha : a.put N v = a')
    (hK : wpList P ops Q rest a' w) : wpList P ops Q (o :: rest) a w := by
  subst ha
  subst hN
  exact wpList_plain hgd fun K hK' => by
    unfold Oper.wp
    rw [hx]
    exact hK' _ _ hK
theorem linS_ (hgd : o.guard = none) (hN : o.dst = none) {w' : World} (hx : (execOp a.eval o).run P w = .ok .skip w')
    (hK : wpList P ops Q rest a w') : wpList P ops Q (o :: rest) a w :=
  wpList_plain hgd fun K hK' => by
    unfold Oper.wp
    rw [hx]
    exact hK' _ _ (by rw [hN]; exact hK)
end
end Go.Proofs.YthpcedficlhanaaGreatDoor
