/-
  THE WALK OF FaultNumbers.
-/
import Derived.Test.YthappdipoofclaaDoorFault
namespace Go.Proofs.YthappdipoofclaaDoor
set_option linter.unusedSimpArgs false
set_option linter.unusedVariables false
open Go.RowKit
set_option maxHeartbeats 400000 in
theorem faultNumbers_walk (w : World) (hg : ET w) : Calls Tryd.prog 3 #[] w fun e w' => e = .returned (.bool true) ∧ Below w.heap.size w w' := by
  go_enter Tryd.func3, Tryd.ntmps3
  go_wp2_with fail
  refine (new_err 9 0 w (by decide)).mono ?_
  rintro e w1 ⟨v, rfl, hc, hb⟩
  go_wp2_with fail
  refine (code_any 9 0 [] v w1 hc (hg.below hb hg.lt)).mono ?_
  rintro e w2 ⟨rfl, hb2⟩
  go_wp2_with fail
  go_ret
  exact ⟨rfl, hb.trans (hb2.mono hb.size)⟩
end Go.Proofs.YthappdipoofclaaDoor
