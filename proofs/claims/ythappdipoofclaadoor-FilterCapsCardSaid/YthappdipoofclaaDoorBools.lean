/-
  A SLICE OF BOOLS THAT READS.
-/
import Derived.Test.YthappdipoofclaaDoorMem
import Derived.Test.YthappdipoofclaaDoorProg
namespace Go.Proofs.YthappdipoofclaaDoor
set_option linter.unusedSimpArgs false
set_option linter.unusedVariables false
open Go.RowKit
structure BRd (w : World) (A : Option Addr) (n : Nat) (fs : Nat → Bool) : Prop where
  cells : ∀ k, k < n → ∃ ad, A = some ad ∧ w.cell? (ad.add k) = some (.bool (fs k))
end Go.Proofs.YthappdipoofclaaDoor
