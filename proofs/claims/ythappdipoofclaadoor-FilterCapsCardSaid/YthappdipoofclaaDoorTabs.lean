/-
  WHAT A ROW GIVES: the variable errors.errorType; a world for a witness.
-/
import Derived.Test.YthappdipoofclaaDoorCards
import Derived.Test.YthappdipoofclaaDoorTie
import Derived.Test.YthappdipoofclaaDoorFault
import Derived.ProofKit
import Derived.OpenShut
import Derived.Deep.DeepHandedRow
import Derived.Lib.LaidTab
import Derived.LaidLaws
import Derived.LaidHandle
import Derived.Stop.Joined
import Derived.Stop.LaidErr
namespace Go.Proofs.YthappdipoofclaaDoor
set_option linter.unusedSimpArgs false
set_option linter.unusedVariables false
open Go.ChangeShapes Go.WideShapes Go.ChangeAt Go.RowKit

theorem et0 : Tryd.prog.globalNamed "errors.errorType" = some 0 := by kernel_rfl
theorem rt0 : (Tryd.prog.cutTypes.find? (·.1 == "internal/reflectlite.rtype")).map (·.2) = some 97 := by kernel_rfl
theorem oneRow0 : ((List.range 154).filter fun t => Tryd.prog.rowNamed t [101, 114, 114, 111, 114]) = [25] := by kernel_rfl
theorem size0 : Tryd.prog.types.size = 154 := by kernel_rfl

/-- WHAT THE ROW's LIST GIVES. -/
theorem et_of_laid {laid : List (String × DataW Unit)} (hm : ("errors.errorType", Rows.laid_errors_errorType) ∈ laid) {W : World} (h : laidMetH Tryd.prog laid W) : ET W := by
  have hf : (("errors.errorType", Rows.laid_errors_errorType) : String × DataW Unit) ∈ laid.filter fun x => x.2.handleName?.isSome := List.mem_filter.2 ⟨hm, by kernel_rfl⟩
  have h2 : handlesMet Tryd.prog (laid.filter fun x => x.2.handleName?.isSome) W := by
    unfold laidMetH at h
    generalize (laid.filter fun x => x.2.handleName?.isSome) = fl at h hf
    cases fl with
    | nil => cases hf
    | cons a r => exact h.2
  have h3 := h2 _ hf
  have e : (Rows.laid_errors_errorType : DataW Unit).funcsIn? = none := by kernel_rfl
  rw [e] at h3
  obtain ⟨name, u, ty, e1, e2, e3, e4, e5⟩ := h3
  have en : name = [101, 114, 114, 111, 114] := (Option.some.inj e1).symm
  subst en
  obtain rfl := Option.some.inj (rt0.symm.trans e2)
  have hmm : ty ∈ (List.range 154).filter fun t => Tryd.prog.rowNamed t [101, 114, 114, 111, 114] := List.mem_filter.2 ⟨List.mem_range.2 (by rw [← size0]; exact e3), e4⟩
  rw [oneRow0] at hmm
  obtain rfl := List.mem_singleton.1 hmm
  have hh : typeHandle Tryd.prog 25 = .pointer (some ⟨4, 25, none⟩) := by kernel_rfl
  rw [hh] at e5
  exact ⟨by simpa using World.var?_cell et0 e5 0⟩

def cellsOfD : DataW Unit → Array Value
  | .agg ds => (ds.map fun | .lit (.int k n) => Value.int k n | _ => undef).toArray
  | _ => #[]
/-- A WORLD FOR A WITNESS: the variables laid. -/
noncomputable def laidWorld (os : Os) : World :=
  let w := World.holding Tryd.prog os ⟨#[], #[], []⟩
  { w with heap := (((w.heap.modify 0 (fun o => match o with
      | .cells _ t frozen => .cells #[.iface 97 (.agg #[.pointer (some ⟨4, 25, none⟩)])] t frozen
      | o => o)).modify 1 (fun o => match o with
      | .cells _ t frozen => .cells (cellsOfD Rows.laid_internal_strconv_uint64pow10) t frozen
      | o => o)).modify 2 (fun o => match o with
      | .cells _ t frozen => .cells (cellsOfD Rows.laid_math_bits_deBruijn32tab) t frozen
      | o => o)).modify 3 (fun o => match o with
      | .cells _ t frozen => .cells (cellsOfD Rows.laid_math_bits_deBruijn64tab) t frozen
      | o => o) }
theorem own : ownKnob Tryd.prog.godebug = none := by kernel_rfl
theorem laidOut : laidOutB Tryd.prog = true := by kernel_rfl
end Go.Proofs.YthappdipoofclaaDoor
