/-
  THE WALKS OF PACKAGE fault: an error is a chain of faults, each with a code and a place; outermost, New, Code, In, Path, Text.
-/
import Derived.Test.YthappdipoofclaaDoorAs
import Derived.Test.YthappdipoofclaaDoorMem
import Derived.Test.YthappdipoofclaaDoorBuild
import Derived.Deep.LoopGhost
import Derived.Lib.Hide
namespace Go.Proofs.YthappdipoofclaaDoor
set_option linter.unusedSimpArgs false
set_option linter.unusedVariables false
open Go.RowKit

/-- e is an error with these codes and places -/
def Chain (w : World) : List (Int × Int) → Value → Prop
  | [], e => e = .nilIface
  | x :: r, e => ∃ b cause, e = .iface 61 (.pointer (some ⟨b, 0, none⟩)) ∧ Blk w b 64 #[.int .i64 x.1, .int .i64 x.2, cause] ∧ Chain w r cause
theorem Chain.below {w w' : World} : ∀ {l : List (Int × Int)} {e : Value}, Chain w l e → Below w.heap.size w w' → Chain w' l e
  | [], _, h, _ => h
  | _ :: _, _, ⟨b, cause, h1, h2, h3⟩, hb => ⟨b, cause, h1, h2.below hb h2.lt, h3.below hb⟩
/-- the outermost fault's address -/
def fptr : Value → Value
  | .iface _ p => p
  | _ => .pointer none

/-- the variable errors.errorType is laid -/
structure ET (w : World) : Prop where
  cell : w.cell? ⟨0, 0, none⟩ = some (.iface 97 (.agg #[.pointer (some ⟨4, 25, none⟩)]))
theorem ET.lt {w : World} (h : ET w) : 0 < w.heap.size := block_lt_of_cell h.cell
theorem ET.below {w w' : World} {B : Nat} (h : ET w) (hb : Below B w w') (hB : 0 < B) : ET w' := ⟨(hb.cell (p := ⟨0, 0, none⟩) hB).trans h.cell⟩

set_option maxHeartbeats 1000000 in
theorem outermost_nil (w : World) : Calls Tryd.prog 27 #[.nilIface] w fun e w' => e = .returned (.pointer none) ∧ Below w.heap.size w w' := by
  go_enter Tryd.func27, Tryd.ntmps27
  go_wp2_with (go_at_call 33; refine (as_nil _ _).mono ?_; rintro e w' ⟨rfl, rfl⟩)
  go_ret
  exact ⟨rfl, (Below.refl _ _).alloc (Nat.le_refl _) _⟩
set_option maxHeartbeats 1000000 in
theorem outermost_hit (b : Nat) (w : World) (hg : ET w) : Calls Tryd.prog 27 #[.iface 61 (.pointer (some ⟨b, 0, none⟩))] w fun e w' => e = .returned (.pointer (some ⟨b, 0, none⟩)) ∧ Below w.heap.size w w' := by
  have hlt := hg.lt
  have hgA := hg.cell
  have hgB : (w.alloc (.cells #[.pointer none] 61)).cell? ⟨0, 0, none⟩ = some (.iface 97 (.agg #[.pointer (some ⟨4, 25, none⟩)])) := by
    rw [World.cell?_alloc_lt _ _ ⟨0, 0, none⟩ hlt]; exact hgA
  have htA : (w.alloc (.cells #[.pointer none] 61)).cell? ⟨w.heap.size, 0, none⟩ = some (.pointer none) := by simp
  have hfA : (w.alloc (.cells #[.pointer none] 61)).frozen? ⟨w.heap.size, 0, none⟩ = false := by simp
  clear hgA
  go_enter Tryd.func27, Tryd.ntmps27
  go_wp2_with (go_at_call 33; refine (as_hit _ _ (.pointer none) _ hgB htA hfA).mono ?_; rintro e w' ⟨rfl, rfl⟩)
  go_ret
  exact ⟨rfl, (((((Below.refl _ _).alloc (Nat.le_refl _) _).alloc (by simp) _).alloc (by simp; omega) _).alloc (by simp; omega) _).alloc (by simp; omega) _⟩
theorem outermost_any (l : List (Int × Int)) (e : Value) (w : World) (hc : Chain w l e) (hg : ET w) : Calls Tryd.prog 27 #[e] w fun ev w' => ev = .returned (fptr e) ∧ Below w.heap.size w w' := by
  cases l with
  | nil => cases hc; exact outermost_nil w
  | cons x r =>
    obtain ⟨b, cause, rfl, _, _⟩ := hc
    exact outermost_hit b w hg

/-- what New, In answer -/
def ErrRet (w : World) (l : List (Int × Int)) (e : Ending) (w' : World) : Prop := ∃ v, e = .returned v ∧ Chain w' l v ∧ Below w.heap.size w w'

set_option maxHeartbeats 400000 in
theorem new_err (c a : Int) (w : World) (hc : (c == 0) = false) : Calls Tryd.prog 11 #[.int .i64 c, .int .i64 a] w (ErrRet w [(c, a)]) := by
  go_enter Tryd.func11, Tryd.ntmps11
  go_wp2
  go_ret
  exact ⟨_, rfl, ⟨_, _, rfl, Blk.new w 64 _, rfl⟩, (Below.refl _ _).alloc (Nat.le_refl _) _⟩

set_option maxHeartbeats 400000 in
theorem code_nil (w : World) : Calls Tryd.prog 10 #[.nilIface] w fun e w' => e = .returned (.int .i64 0) ∧ Below w.heap.size w w' := by
  go_enter Tryd.func10, Tryd.ntmps10
  go_wp2_with (go_at_call 27; refine (outermost_nil _).mono ?_; rintro e w' ⟨rfl, hb⟩)
  go_ret
  exact ⟨rfl, hb⟩
set_option maxHeartbeats 400000 in
theorem code_any (c a : Int) (r : List (Int × Int)) (e : Value) (w : World) (hc : Chain w ((c, a) :: r) e) (hg : ET w) : Calls Tryd.prog 10 #[e] w fun ev w' => ev = .returned (.int .i64 c) ∧ Below w.heap.size w w' := by
  obtain ⟨b, cause, rfl, hB, _⟩ := hc
  go_enter Tryd.func10, Tryd.ntmps10
  go_wp2_with fail
  refine (outermost_hit b w hg).mono ?_
  rintro e w' ⟨rfl, hb⟩
  have h0 : w'.cell? ⟨b, 0, none⟩ = some (.int .i64 c) := (hB.below hb hB.lt).cell 0
  go_wp2
  go_ret
  exact ⟨rfl, hb⟩

set_option maxHeartbeats 400000 in
theorem in_any (c a : Int) (r : List (Int × Int)) (e : Value) (w : World) (hc : Chain w ((c, a) :: r) e) (hg : ET w) (p : Int) : Calls Tryd.prog 28 #[e, .int .i64 p] w (ErrRet w ((c, p) :: (c, a) :: r)) := by
  have hc0 := hc
  obtain ⟨b, cause, rfl, _, _⟩ := hc0
  go_enter Tryd.func28, Tryd.ntmps28
  go_wp2_with fail
  refine (code_any c a r _ w hc hg).mono ?_
  rintro e w' ⟨rfl, hb⟩
  go_wp2
  go_ret
  exact ⟨_, rfl, ⟨_, _, rfl, Blk.new w' 64 _, (hc.below hb).below ((Below.refl _ _).alloc (Nat.le_refl _) _)⟩, hb.alloc hb.size _⟩
end Go.Proofs.YthappdipoofclaaDoor
