/-
  THE WALKS OF told AND few.
-/
import Derived.Test.YthappdipoofclaaDoorRuleA
namespace Go.Proofs.YthappdipoofclaaDoor
set_option linter.unusedSimpArgs false
set_option linter.unusedVariables false
open Go.RowKit

set_option maxHeartbeats 400000 in
theorem told_none (w : World) : Calls Tryd.prog 23 #[.nilIface, .int .i64 0, .int .i64 0] w fun e w' => e = .returned (.bool true) ∧ Below w.heap.size w w' := by
  go_enter Tryd.func23, Tryd.ntmps23
  go_wp2
  go_ret
  exact ⟨rfl, Below.refl _ _⟩
set_option maxHeartbeats 1000000 in
theorem told_some (c a : Int) (e : Value) (w : World) (hc : Chain w [(c, a)] e) (hg : ET w) (h0 : (c == 0) = false) : Calls Tryd.prog 23 #[e, .int .i64 c, .int .i64 a] w fun e w' => e = .returned (.bool true) ∧ Below w.heap.size w w' := by
  go_enter Tryd.func23, Tryd.ntmps23
  go_wp2_with fail
  refine (path_any [(c, a)] e w hc hg (by simp)).mono ?_
  rintro ev w1 ⟨A, cap, rfl, hown, hb1⟩
  go_wp2_with fail
  refine (code_any c a [] e w1 (hc.below hb1) (hg.below hb1 hg.lt)).mono ?_
  rintro ev w2 ⟨rfl, hb2⟩
  have hown2 := own_below hown hb2
  obtain ⟨g, cap2, hv, _, _⟩ := hown2.form (by simp)
  injection hv with e1 e2 e3
  subst e1
  have hc0 : w2.cell? ⟨g, 0, none⟩ = some (.int .i64 a) := by
    have := hown2.cells (g := g) rfl 0 (.int .i64 a) rfl
    rw [Addr.add_lit, Nat.zero_add] at this
    exact this
  clear hown hown2 e2 e3
  have hb := hb1.trans (hb2.mono hb1.size)
  clear hb1 hb2
  go_wp2_with fail
  go_ret
  exact ⟨rfl, hb⟩
theorem told_any (o : Option (Int × Int)) (e : Value) (w : World) (hc : Chain w o.toList e) (hg : ET w) (h0 : ∀ x, o = some x → (x.1 == 0) = false) : Calls Tryd.prog 23 #[e, .int .i64 (o.getD (0, 0)).1, .int .i64 (o.getD (0, 0)).2] w fun e w' => e = .returned (.bool true) ∧ Below w.heap.size w w' := by
  cases o with
  | none =>
    cases hc
    exact told_none w
  | some x => exact told_some x.1 x.2 e w hc hg (h0 x rfl)

set_option maxHeartbeats 1000000 in
theorem few_any (least most : Int) (A : Option Addr) (n c : Nat) (w : World) (hnc : n ≤ c) (hn : n ≤ 9223372036854775807) :
    Calls Tryd.prog 12 #[ruleV least most A n c] w fun e w' => e = .returned (ruleV least most A (min n 10) c) ∧ Below w.heap.size w w' := by
  by_cases h : 10 < n
  · rw [show min n 10 = 10 by omega]
    have hc10 : 10 ≤ c := by omega
    go_enter Tryd.func12, Tryd.ntmps12
    go_wp2
    exact bodyPost_ret (v := ruleV least most A 10 c) (by simp [results, Tryd.results12, go_sem]) rfl ⟨rfl, ((Below.refl _ _).alloc (Nat.le_refl _) _).alloc (by simp) _⟩
  · rw [show min n 10 = n by omega]
    go_enter Tryd.func12, Tryd.ntmps12
    go_wp2
    exact bodyPost_ret (v := ruleV least most A n c) (by simp [results, Tryd.results12, go_sem]) rfl ⟨rfl, ((Below.refl _ _).alloc (Nat.le_refl _) _).alloc (by simp) _⟩
end Go.Proofs.YthappdipoofclaaDoor
