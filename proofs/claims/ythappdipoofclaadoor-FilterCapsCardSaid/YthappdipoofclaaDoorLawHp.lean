/-
  THE WALK OF FilterCaps.
-/
import Derived.Test.YthappdipoofclaaDoorLawF
import Derived.Test.YthappdipoofclaaDoorBools
import Derived.BigRegion
namespace Go.Proofs.YthappdipoofclaaDoor
set_option linter.unusedSimpArgs false
set_option linter.unusedVariables false
open Go.RowKit
/-- what holds at each round's head: both caps alike -/
structure TwoS (w W : World) (gc gm : Nat) (r b x : Int) : Prop where
  c : Blk W gc 41 (capA r b x)
  m : Blk W gm 41 (capA r b x)
  bel : Below w.heap.size w W
  lec : w.heap.size ≤ gc
  lem : w.heap.size ≤ gm
  ne : gc ≠ gm
theorem capCells {W : World} {g : Nat} {t : TypeId} {cs : Array Value} (h : Blk W g t cs) : ∀ j v, cs[j]? = some v → W.cell? ((⟨g, 0, none⟩ : Addr).add j) = some v := fun j v hj => by
  rw [Addr.add_lit, Nat.zero_add, h.cell]
  exact hj
theorem capRow (r b x r' b' x' : Int) : ((capA r b x).toList.take 0 ++ (capA r' b' x').toList ++ (capA r b x).toList.drop (0 + (capA r' b' x').size)).toArray = capA r' b' x' := rfl
end Go.Proofs.YthappdipoofclaaDoor
