/-
  THE WALK OF FilterCaps, whole.
-/
import Derived.Test.YthappdipoofclaaDoorLawH
import Derived.Test.YthappdipoofclaaDoorLawI
namespace Go.Proofs.YthappdipoofclaaDoor
set_option linter.unusedSimpArgs false
set_option linter.unusedVariables false
open Go.RowKit
theorem filterCaps_walk (r b l : Int) (A : Option Addr) (n c : Nat) (fs : Nat → Bool) (rate burst : Int) (w : World) (hA : BRd w A n fs) (hn : n ≤ 9223372036854775807) (hg : ET w) :
    Calls Tryd.prog 5 #[.agg #[.int .i64 r, .int .i64 b, .int .i64 l, .slice A n c, .int .i64 rate, .int .i64 burst]] w fun e w' => e = .returned (.bool true) ∧ Below w.heap.size w w' := by
  cases hm : mayB rate burst burst with
  | true => exact filterCaps_yes r b l A n c fs rate burst w hA hn hm hg
  | false => exact filterCaps_no r b l A n c fs rate burst w hA hn hm hg
end Go.Proofs.YthappdipoofclaaDoor
