/-
  THE WALK OF CodeChecks.
-/
import Derived.Test.YtdkhbnkhpebkkaaDoorAwake
import Derived.Test.YtdkhbnkhpebkkaaDoorSame
import Derived.Test.YtdkhbnkhpebkkaaDoorFlat
namespace Go.Proofs.YtdkhbnkhpebkkaaDoor
set_option linter.unusedSimpArgs false
set_option linter.unusedVariables false
open Go.RowKit
set_option maxRecDepth 100000 in
set_option maxHeartbeats 1000000 in
open Classical in
theorem codeChecks_walk (A : Option Addr) (n c : Nat) (l : List Ins) (w : World) (hR : IRd w A n l) (hnc : n ≤ c) (hn : n ≤ 9223372036854775807) (hg : ET w) :
    Calls Tryd.prog 4 #[.slice A n c] w fun e w' => e = .returned (.bool true) ∧ Below w.heap.size w w' := by
  have hpos := hg.lt
  obtain ⟨i0, hi0, hz0, hz1, hz2⟩ := info_parts info46'
  go_enter Tryd.func4, Tryd.ntmps4
  go_wp2_with fail
  refine (few_any A n c w hnc hn).mono ?_
  rintro e w' ⟨rfl, rfl⟩
  have hR1 := hR.take 140
  have hk : min n 140 ≤ 140 := by omega
  clear hnc hn hR
  generalize min n 140 = k at *
  generalize l.take 140 = m at *
  have hml := hR1.len
  have hbA := (Below.refl w.heap.size w).alloc (Nat.le_refl _) (.cells #[] 46)
  have hRA := hR1.below hbA
  have hown := own_empty w w.heap.size (Nat.le_refl _)
  go_wp2_with (at_builtin; refine wpList_append_any _ rfl (.tmp 9) (.tmp 10) 23 rfl w.heap.size 46 i0 _ 4 4 Tryd.underlying23 hi0 hz0 hz1 hz2 rfl (by omega) (.slice (some ⟨w.heap.size, 0, none⟩) 0 0) 0 _ rfl hown _ A k c (flat m) rfl hRA.reads (flat_one m) (by simp only [maxLen]; omega) (by omega) (by simp) ?_; intro v2 w2 hown2 hg2 hat2; obtain ⟨A2, c2, rfl⟩ := own_slice hown2)
  rw [Nat.zero_add, show flat [] ++ flat m = flat m from rfl] at hown2
  have hb2 : Below w.heap.size w w2 := hbA.grown hg2 (by simp) (fun k hk => (hown.lt k hk).1)
  have hR2 := hR1.below hb2
  have hC2 := own_ird hown2 hml
  clear hg2 hat2 hown hRA hbA hown2 hR1 hi0 hz0 hz1 hz2 i0
  refine (check_any A k c m w2 hR2 (by omega)).mono ?_
  rintro e w3 ⟨v, rfl, hch3, hb3⟩
  have hR3 := hR2.below hb3
  have hC3 := hC2.below hb3
  have hbel3 := hb2.trans (hb3.mono hb2.size)
  clear hR2 hC2 hb2 hb3
  go_wp2_with fail
  refine (refcheck_any A2 k c2 m w3 hC3 (by omega)).mono ?_
  rintro e w4 ⟨rfl, hb4⟩
  have hR4 := hR3.below hb4
  have hC4 := hC3.below hb4
  have hbel4 := hbel3.trans (hb4.mono hbel3.size)
  have hch4 := hch3.below hb4
  have hcode := fun x => @chk_code m x
  clear hR3 hC3 hbel3 hb4 hch3
  generalize chk m = o at *
  cases o with
  | none =>
    obtain rfl : v = .nilIface := hch4
    rw [numsOf_none]
    clear hcode
    go_wp2_with fail
    refine (same_any A k c m A2 k c2 m w4 hR4 hC4 (by omega) (by omega)).mono ?_
    rintro e w5 ⟨rfl, hb5⟩
    rw [decide_eq_true (rfl : m = m)]
    have hbel5 := hbel4.trans (hb5.mono hbel4.size)
    clear hb5 hR4 hC4 hbel4
    go_wp2_with fail
    refine (awake_any w5 (hg.below hbel5 hpos)).mono ?_
    rintro e w6 ⟨rfl, hb6⟩
    go_wp2_with fail
    go_ret
    exact ⟨rfl, hbel5.trans (hb6.mono hbel5.size)⟩
  | some x =>
    obtain ⟨ec, ea⟩ := x
    have h0 : (ec == 0) = false := hcode _ rfl
    rw [numsOf_some]
    clear hcode hR4 hC4
    go_wp2_with fail
    refine (code_any ec ea [] v w4 hch4 (hg.below hbel4 hpos)).mono ?_
    rintro e w5 ⟨rfl, hb5⟩
    have hch5 := hch4.below hb5
    have hbel5 := hbel4.trans (hb5.mono hbel4.size)
    clear hch4 hb5 hbel4
    go_wp2_with fail
    refine (path_any [(ec, ea)] v w5 hch5 (hg.below hbel5 hpos) (by simp)).mono ?_
    rintro ev w6 ⟨A6, c6, rfl, hown6, hb6⟩
    have hch6 := hch5.below hb6
    have hbel6 := hbel5.trans (hb6.mono hbel5.size)
    clear hch5 hb6 hbel5 hown6
    go_wp2_with fail
    refine (path_any [(ec, ea)] v w6 hch6 (hg.below hbel6 hpos) (by simp)).mono ?_
    rintro ev w7 ⟨A7, c7, rfl, hown7, hb7⟩
    have hbel7 := hbel6.trans (hb7.mono hbel6.size)
    obtain ⟨g7, cap7, hv, _, _⟩ := hown7.form (by simp)
    injection hv with e1 e2 e3
    subst e1
    have hc0 : w7.cell? ⟨g7, 0, none⟩ = some (.int .i64 ea) := by
      have := hown7.cells (g := g7) rfl 0 (.int .i64 ea) rfl
      rw [Addr.add_lit, Nat.zero_add] at this
      exact this
    clear hown7 e2 e3 hb7 hbel6 hch6
    go_wp2_with fail
    refine (awake_any w7 (hg.below hbel7 hpos)).mono ?_
    rintro e w8 ⟨rfl, hb8⟩
    go_wp2_with fail
    go_ret
    exact ⟨rfl, hbel7.trans (hb8.mono hbel7.size)⟩
end Go.Proofs.YtdkhbnkhpebkkaaDoor
