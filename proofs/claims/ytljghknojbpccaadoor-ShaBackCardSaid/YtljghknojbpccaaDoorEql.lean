/-
  AN EQUALITY OF TWO SUMS, as one step of a plain region.
-/
import Derived.Test.YtljghknojbpccaaDoorLawH
namespace Go.Proofs.YtljghknojbpccaaDoor
set_option linter.unusedSimpArgs false
set_option linter.unusedVariables false
open Go.RowKit
theorem eql24w {ops : Array Oper} {rest : List Oper} {o : Oper} {a : Act} {w : World} {Q : Exit → Act → World → Prop} (hw : Region.wanted o (yielded ops a.tmps) = true) (x y : Operand) (ho : o.op = .binOp .eql 24 x y 24)
    (V Z : Array Value) (hx : a.eval x = .agg V) (hy : a.eval y = .agg Z) (he : ∀ W, (Op.equalIn 10000 24 (.agg V) (.agg Z)).run Tryd.prog W = .ok true W)
    (h : wpList Tryd.prog ops Q rest (a.put o.dst (.bool true)) w) : wpList Tryd.prog ops Q (o :: rest) a w :=
  wpList_step fun K hK => by
    rw [if_pos hw]
    have hk := hK _ _ h
    unfold Oper.wp
    simp only [execOp, ho, hx, hy]
    simp [go_sem, he, Result.andThen]
    exact hk
end Go.Proofs.YtljghknojbpccaaDoor
