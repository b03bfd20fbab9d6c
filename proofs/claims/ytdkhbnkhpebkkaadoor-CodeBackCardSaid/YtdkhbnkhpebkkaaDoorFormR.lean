/-
  THE WALK OF THE DOCUMENT's Formed.
-/
import Derived.Test.YtdkhbnkhpebkkaaDoorForm
namespace Go.Proofs.YtdkhbnkhpebkkaaDoor
set_option linter.unusedSimpArgs false
set_option linter.unusedVariables false
open Go.RowKit
set_option maxRecDepth 100000 in
set_option maxHeartbeats 4000000 in
theorem formed_any (o a b c : Int) (w : World) (ho : 0 ≤ o) (ha : 0 ≤ a) (hb : 0 ≤ b) (hc : 0 ≤ c) :
    Calls Tryd.prog 25 #[.agg (ins4 o a b c)] w fun e w' => e = .returned (.bool (formB o a b c)) ∧ Below w.heap.size w w' := by
  have hbel := (Below.refl w.heap.size w).alloc (Nat.le_refl _) (.cells (ins4 o a b c) 46)
  go_enter Tryd.func25, Tryd.ntmps25
  go_wp2
  go_quiet (fail)
  go_wp2
  all_goals go_ret
  all_goals (try subst_vars)
  all_goals (refine ⟨congrArg (fun v => Ending.returned (Value.bool v)) (formB_eq ?_), below_drewN hbel _⟩)
  all_goals (first
    | (simp only [beq_iff_eq, bne_iff_ne, beq_eq_false_iff_ne, bne_eq_false_iff_eq, ne_eq] at *; unfold FormP; simp only [decide_eq_true_eq, beq_iff_eq, Bool.and_eq_true, Bool.false_eq_true, eq_self_iff_true, iff_true, iff_false]; omega)
    | (rw [beq_iff_eq]; simp only [beq_iff_eq, bne_iff_ne, beq_eq_false_iff_ne, bne_eq_false_iff_eq, ne_eq] at *; unfold FormP; omega)
    | (unfold FormP; simp only [decide_eq_true_eq, beq_iff_eq, Bool.and_eq_true, Bool.false_eq_true, eq_self_iff_true, iff_true, iff_false]; omega)
    | (unfold FormP; rw [decide_eq_true_iff]; omega)
    | (unfold FormP; rw [decide_eq_true_iff]; constructor <;> intro hx <;> simp at hx ⊢ <;> omega))
end Go.Proofs.YtdkhbnkhpebkkaaDoor
