/-
  THE WALKS OF wellFormed, leads, Number, and the document's Formed and Number, over any four bytes.
-/
import Derived.Test.YtdkhbnkhpebkkaaDoorPath
import Derived.Test.YtdkhbnkhpebkkaaDoorBytes
import Derived.IntWalk
import Derived.Deep.QuietTactic
import Derived.BigQuiet
namespace Go.Proofs.YtdkhbnkhpebkkaaDoor
set_option linter.unusedSimpArgs false
set_option linter.unusedVariables false
open Go.RowKit

abbrev ins4 (o a b c : Int) : Array Value := #[.int .u8 o, .int .u8 a, .int .u8 b, .int .u8 c]
/-- is an instruction of the form? -/
def FormP (o a b c : Int) : Prop :=
  (o = 0 ∧ a = 0 ∧ b = 0 ∧ c = 0) ∨ ((o = 1 ∨ o = 16) ∧ a < 8) ∨ (o = 2 ∧ a < 8 ∧ b < 8 ∧ c = 0) ∨ (3 ≤ o ∧ o ≤ 12 ∧ a < 8 ∧ b < 8 ∧ c < 8) ∨ ((o = 13 ∨ o = 14) ∧ a < 8 ∧ b < 8) ∨ (o = 15 ∧ a = 0) ∨ (o = 17 ∧ a < 16 ∧ b = 0 ∧ c = 0)
open Classical in
noncomputable def formB (o a b c : Int) : Bool := decide (FormP o a b c)
theorem formB_eq {o a b c : Int} {v : Bool} (h : FormP o a b c ↔ v = true) : v = formB o a b c := by
  classical
  unfold formB
  cases v
  · symm
    rw [decide_eq_false_iff_not, h]
    simp
  · symm
    rw [decide_eq_true_iff, h]

set_option maxRecDepth 100000 in
set_option maxHeartbeats 4000000 in
theorem wellFormed_any (o a b c : Int) (w : World) (ho : 0 ≤ o) (ha : 0 ≤ a) (hb : 0 ≤ b) (hc : 0 ≤ c) :
    Calls Tryd.prog 23 #[.agg (ins4 o a b c)] w fun e w' => e = .returned (.bool (formB o a b c)) ∧ w.alloc (.cells (ins4 o a b c) 46) = w' := by
  go_enter Tryd.func23, Tryd.ntmps23
  go_wp2
  all_goals go_ret
  all_goals (try subst_vars)
  all_goals (refine ⟨congrArg (fun v => Ending.returned (Value.bool v)) (formB_eq ?_), rfl⟩)
  all_goals (first
    | (simp only [beq_iff_eq, bne_iff_ne, beq_eq_false_iff_ne, bne_eq_false_iff_eq, ne_eq] at *; unfold FormP; simp only [decide_eq_true_eq, beq_iff_eq, Bool.and_eq_true, Bool.false_eq_true, eq_self_iff_true, iff_true, iff_false]; omega)
    | (rw [beq_iff_eq]; simp only [beq_iff_eq, bne_iff_ne, beq_eq_false_iff_ne, bne_eq_false_iff_eq, ne_eq] at *; unfold FormP; omega))

set_option maxRecDepth 100000 in
set_option maxHeartbeats 4000000 in
theorem leads_any (o a b c : Int) (w : World) (ho : 0 ≤ o) :
    Calls Tryd.prog 24 #[.agg (ins4 o a b c)] w fun e w' => e = .returned (.bool (decide (o = 15 ∨ o = 16))) ∧ w.alloc (.cells (ins4 o a b c) 46) = w' := by
  by_cases h1 : o = 15
  · subst h1
    go_enter Tryd.func24, Tryd.ntmps24
    go_wp2
    go_ret
    exact ⟨rfl, rfl⟩
  by_cases h2 : o = 16
  · subst h2
    go_enter Tryd.func24, Tryd.ntmps24
    go_wp2
    go_ret
    exact ⟨rfl, rfl⟩
  rw [show decide (o = 15 ∨ o = 16) = false from by rw [decide_eq_false_iff_not]; omega]
  have e1 : (o == 15) = false := by rw [beq_eq_false_iff_ne]; exact h1
  have e2 : (o == 16) = false := by rw [beq_eq_false_iff_ne]; exact h2
  clear h1 h2
  go_enter Tryd.func24, Tryd.ntmps24
  go_wp2
  go_ret
  exact ⟨rfl, rfl⟩

/-- B and 256 C, with its sign at Set -/
def numI (o b c : Int) : Int := if o = 1 ∧ 32768 ≤ b + 256 * c then b + 256 * c - 65536 else b + 256 * c
theorem numI_set {o b c : Int} (h : o = 1) (h2 : 32768 ≤ b + 256 * c) : numI o b c = b + 256 * c - 65536 := by unfold numI; rw [if_pos ⟨h, h2⟩]
theorem numI_low {o b c : Int} (h2 : ¬ 32768 ≤ b + 256 * c) : numI o b c = b + 256 * c := by unfold numI; rw [if_neg (fun x => h2 x.2)]
theorem numI_no {o b c : Int} (h : ¬ o = 1) : numI o b c = b + 256 * c := by unfold numI; rw [if_neg (fun x => h x.1)]
set_option maxRecDepth 100000 in
set_option maxHeartbeats 1000000 in
theorem number_any (o a b c : Int) (w : World) (hb : 0 ≤ b) (hb2 : b < 256) (hc : 0 ≤ c) (hc2 : c < 256) :
    Calls Tryd.prog 21 #[.agg (ins4 o a b c)] w fun e w' => e = .returned (.int .i64 (numI o b c)) ∧ w.alloc (.cells (ins4 o a b c) 46) = w' := by
  by_cases h1 : o = 1
  · by_cases h2 : 32768 ≤ b + 256 * c
    · rw [numI_set h1 h2]
      subst h1
      go_enter Tryd.func21, Tryd.ntmps21
      go_wp2
      go_ret
      exact ⟨rfl, rfl⟩
    · rw [numI_low h2]
      subst h1
      go_enter Tryd.func21, Tryd.ntmps21
      go_wp2
      go_ret
      exact ⟨rfl, rfl⟩
  · rw [numI_no h1]
    have e1 : (o == 1) = false := by rw [beq_eq_false_iff_ne]; exact h1
    clear h1
    go_enter Tryd.func21, Tryd.ntmps21
    go_wp2
    go_ret
    exact ⟨rfl, rfl⟩
set_option maxRecDepth 100000 in
set_option maxHeartbeats 1000000 in
theorem refnumber_any (o a b c : Int) (w : World) (hb : 0 ≤ b) (hb2 : b < 256) (hc : 0 ≤ c) (hc2 : c < 256) :
    Calls Tryd.prog 26 #[.agg (ins4 o a b c)] w fun e w' => e = .returned (.int .i64 (numI o b c)) ∧ w.alloc (.cells (ins4 o a b c) 46) = w' := by
  by_cases h1 : o = 1
  · by_cases h2 : 32768 ≤ b + 256 * c
    · rw [numI_set h1 h2]
      subst h1
      go_enter Tryd.func26, Tryd.ntmps26
      go_wp2
      go_ret
      exact ⟨rfl, rfl⟩
    · rw [numI_low h2]
      subst h1
      go_enter Tryd.func26, Tryd.ntmps26
      go_wp2
      go_ret
      exact ⟨rfl, rfl⟩
  · rw [numI_no h1]
    have e1 : (o == 1) = false := by rw [beq_eq_false_iff_ne]; exact h1
    clear h1
    go_enter Tryd.func26, Tryd.ntmps26
    go_wp2
    go_ret
    exact ⟨rfl, rfl⟩
end Go.Proofs.YtdkhbnkhpebkkaaDoor
