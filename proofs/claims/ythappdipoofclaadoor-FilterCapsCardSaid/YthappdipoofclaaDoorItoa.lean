/-
  strconv.Itoa at the few numbers that the examples tell.
-/
import Derived.Test.YthappdipoofclaaDoorProg
import Derived.WalkKit
import Derived.WalkSpells
namespace Go.Proofs.YthappdipoofclaaDoor
set_option linter.unusedSimpArgs false
set_option linter.unusedVariables false
open Go.RowKit
/-- Itoa's answer at n -/
def NumIs (n : Int) (s : List UInt8) : Prop := ∀ w, Calls Tryd.prog 38 #[.int .i64 n] w fun e w' => e = .returned (.string ⟨s.toArray⟩) ∧ w = w'
set_option maxHeartbeats 1000000 in
theorem num0 : NumIs 0 [48] := fun w => by
  go_enter Tryd.func38, Tryd.ntmps38
  go_wp2
  go_ret
  exact ⟨rfl, rfl⟩
set_option maxHeartbeats 1000000 in
theorem num2 : NumIs 2 [50] := fun w => by
  go_enter Tryd.func38, Tryd.ntmps38
  go_wp2
  go_ret
  exact ⟨rfl, rfl⟩
set_option maxHeartbeats 1000000 in
theorem num3 : NumIs 3 [51] := fun w => by
  go_enter Tryd.func38, Tryd.ntmps38
  go_wp2
  go_ret
  exact ⟨rfl, rfl⟩
set_option maxHeartbeats 1000000 in
theorem num4 : NumIs 4 [52] := fun w => by
  go_enter Tryd.func38, Tryd.ntmps38
  go_wp2
  go_ret
  exact ⟨rfl, rfl⟩
set_option maxHeartbeats 1000000 in
set_option maxRecDepth 100000 in
theorem num91 : NumIs 91 [57, 49] := fun w => by
  go_enter Tryd.func38, Tryd.ntmps38
  go_wp2
  go_ret
  exact ⟨rfl, rfl⟩
end Go.Proofs.YthappdipoofclaaDoor
