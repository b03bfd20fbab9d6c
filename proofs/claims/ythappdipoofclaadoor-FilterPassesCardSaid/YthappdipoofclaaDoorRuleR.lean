/-
  THE WALK OF THE DOCUMENT's Check.
-/
import Derived.Test.YthappdipoofclaaDoorRuleA
namespace Go.Proofs.YthappdipoofclaaDoor
set_option linter.unusedSimpArgs false
set_option linter.unusedVariables false
open Go.RowKit

/-- the numbers of a fault; 0, 0: none -/
def numsOf (o : Option (Int × Int)) : Value := .tuple #[.int .i64 (o.getD (0, 0)).1, .int .i64 (o.getD (0, 0)).2]
theorem numsOf_some (c a : Int) : numsOf (some (c, a)) = .tuple #[.int .i64 c, .int .i64 a] := rfl
theorem numsOf_none : numsOf none = .tuple #[.int .i64 0, .int .i64 0] := rfl

set_option maxHeartbeats 1000000 in
theorem refcheck_hd (least most : Int) (A : Option Addr) (n c : Nat) (fs : List Fld) (w : World) (hl : fs.length = n) (hh : hdB least most n = false) (hn : n ≤ 9223372036854775807) :
    Calls Tryd.prog 22 #[ruleV least most A n c] w fun e w' => e = .returned (numsOf (chk least most fs)) ∧ Below w.heap.size w w' := by
  rw [chk_hd (by rw [hl]; exact hh), numsOf_some]
  have hh' : ¬ (0 ≤ least ∧ least ≤ most ∧ most ≤ 64 ∧ n ≤ 8) := fun h => by
    rw [hdB_iff.2 h] at hh
    cases hh
  have hb := (Below.refl w.heap.size w).alloc (Nat.le_refl _) (.cells (ruleA least most A n c) 30)
  clear hh
  by_cases h1 : 0 ≤ least
  · by_cases h2 : least ≤ most
    · by_cases h3 : most ≤ 64
      · have h4 : 8 < n := by omega
        go_enter Tryd.func22, Tryd.ntmps22
        go_wp2
        go_ret2
        exact ⟨rfl, hb⟩
      · go_enter Tryd.func22, Tryd.ntmps22
        go_wp2
        go_ret2
        exact ⟨rfl, hb⟩
    · go_enter Tryd.func22, Tryd.ntmps22
      go_wp2
      go_ret2
      exact ⟨rfl, hb⟩
  · go_enter Tryd.func22, Tryd.ntmps22
    go_wp2
    go_ret2
    exact ⟨rfl, hb⟩

set_option maxRecDepth 100000 in
set_option maxHeartbeats 4000000 in
theorem refcheck_ok (least most : Int) (A : Option Addr) (n c : Nat) (fs : List Fld) (w : World) (hR : FRd w A n fs) (hh : hdB least most n = true) :
    Calls Tryd.prog 22 #[ruleV least most A n c] w fun e w' => e = .returned (numsOf (chk least most fs)) ∧ Below w.heap.size w w' := by
  obtain ⟨h1, h2, h3, h4⟩ := hdB_iff.1 hh
  have hlen := hR.len
  have hfin0 : (∀ j g, j < n → fs[j]? = some g → okB g = true) → numsOf (chk least most fs) = .tuple #[.int .i64 0, .int .i64 0] := fun h => by
    rw [chk_ok (by rw [hlen]; exact hh) (fun j g hj hg => h j g (by omega) hg), numsOf_none]
  have hfin1 : ∀ (k : Nat) (f : Fld), fs[k]? = some f → okB f = false → (∀ (j : Nat) (g : Fld), j < k → fs[j]? = some g → okB g = true) → numsOf (chk least most fs) = .tuple #[.int .i64 4, .int .i64 (k : Int)] := fun k f hf ho hp => by
    rw [chk_bad (by rw [hlen]; exact hh) hf ho hp, numsOf_some]
  have HF0 := Lib.hid hfin0
  have HF1 := Lib.hid hfin1
  have hb0 := (Below.refl w.heap.size w).alloc (Nat.le_refl _) (.cells (ruleA least most A n c) 30)
  have hr0 := Blk.new w 30 (ruleA least most A n c)
  clear hfin0 hfin1 hh hlen
  go_enter Tryd.func22, Tryd.ntmps22
  go_wp2_with fail
  go_loopw [4] (fun i wr => ∃ k : Nat, k ≤ n ∧ i = .int .i64 (k : Int) ∧ Hid (∀ j g, j < k → fs[j]? = some g → okB g = true) ∧ Below w.heap.size w wr ∧ Blk wr w.heap.size 30 (ruleA least most A n c)) (fun i _ => n - (intOf i).toNat)
  case atStart => exact ⟨0, Nat.zero_le _, rfl, Lib.hid (fun j g hj => absurd hj (by omega)), hb0, hr0⟩
  case round =>
    obtain ⟨k, hk, rfl, hp, hbel, hr⟩ := hrel
    clear hb0 hr0
    have hr2 : wr.cell? ⟨w.heap.size, 2, none⟩ = some (.slice A n c) := hr.cell 2
    by_cases hlt : k < n
    · obtain ⟨ad, ⟨p, s, l, h⟩, rfl, hf, hc⟩ := hR.at_ hlt
      have hcw : ∀ j v, (fldA ⟨p, s, l, h⟩)[j]? = some v → wr.cell? ((ad.add (k * 4)).add j) = some v := fun j v hj => (hbel.cell (block_lt_of_cell (hc j v hj))).trans (hc j v hj)
      have Hf := Lib.hid hf
      clear hf hc
      have hbel2 := hbel.alloc hbel.size (.cells (fldA ⟨p, s, l, h⟩) 38)
      have hrr := hr.alloc (.cells (fldA ⟨p, s, l, h⟩) 38)
      cases ho : okB ⟨p, s, l, h⟩ with
      | true =>
        obtain ⟨g1, g2, g3, g4, g5⟩ := okB_iff.1 ho
        have hp2 : Hid (∀ j g, j < k + 1 → fs[j]? = some g → okB g = true) := Lib.hid (fun j g hj hg => by
          rcases Nat.lt_or_ge j k with h | h
          · exact hp.out j g h hg
          · obtain rfl : j = k := by omega
            rw [Hf.out] at hg
            injection hg with hg
            rw [← hg, ho])
        clear ho hp
        have g1' : 1 ≤ s := g1
        have g2' : s ≤ 8 := g2
        have g3' : 0 ≤ p := g3
        have g4' : p ≤ 64 - s := g4
        have g5' : l ≤ h := g5
        have g6 : p < 64 := by omega
        have g7 : p + s - 1 < 64 := by omega
        clear g1 g2 g3 g4 g5
        go_wp2_with (refine load38 rfl _ rfl (ad.add (k * 4)) rfl ⟨p, s, l, h⟩ hcw ?_)
        go_roundw
        case rel => exact ⟨k + 1, by omega, by go_num, hp2, hbel2, hrr⟩
        case measure => simp [intOf]; omega
      | false =>
        have HFIN := Lib.hid (HF1.out k _ Hf.out ho hp.out)
        have hno : ¬ (1 ≤ s ∧ s ≤ 8 ∧ 0 ≤ p ∧ p ≤ 64 - s ∧ l ≤ h) := fun hx => by
          rw [okB_iff.2 hx] at ho
          cases ho
        clear ho hp
        by_cases g1 : 1 ≤ s
        · by_cases g2 : s ≤ 8
          · by_cases g3 : 0 ≤ p
            · by_cases g4 : p < 64
              · by_cases g5 : p + s - 1 < 64
                · have g6 : h < l := by omega
                  clear hno
                  go_wp2_with (refine load38 rfl _ rfl (ad.add (k * 4)) rfl ⟨p, s, l, h⟩ hcw ?_)
                  go_ret2
                  rw [HFIN.out]
                  exact ⟨rfl, hbel2⟩
                · clear hno
                  go_wp2_with (refine load38 rfl _ rfl (ad.add (k * 4)) rfl ⟨p, s, l, h⟩ hcw ?_)
                  go_ret2
                  rw [HFIN.out]
                  exact ⟨rfl, hbel2⟩
              · clear hno
                go_wp2_with (refine load38 rfl _ rfl (ad.add (k * 4)) rfl ⟨p, s, l, h⟩ hcw ?_)
                go_ret2
                rw [HFIN.out]
                exact ⟨rfl, hbel2⟩
            · clear hno
              go_wp2_with (refine load38 rfl _ rfl (ad.add (k * 4)) rfl ⟨p, s, l, h⟩ hcw ?_)
              go_ret2
              rw [HFIN.out]
              exact ⟨rfl, hbel2⟩
          · clear hno
            go_wp2_with (refine load38 rfl _ rfl (ad.add (k * 4)) rfl ⟨p, s, l, h⟩ hcw ?_)
            go_ret2
            rw [HFIN.out]
            exact ⟨rfl, hbel2⟩
        · clear hno
          go_wp2_with (refine load38 rfl _ rfl (ad.add (k * 4)) rfl ⟨p, s, l, h⟩ hcw ?_)
          go_ret2
          rw [HFIN.out]
          exact ⟨rfl, hbel2⟩
    · obtain rfl : k = n := by omega
      have HFIN := Lib.hid (HF0.out hp.out)
      clear hp
      go_wp2_with fail
      go_ret2
      rw [HFIN.out]
      exact ⟨rfl, hbel⟩
theorem refcheck_any (least most : Int) (A : Option Addr) (n c : Nat) (fs : List Fld) (w : World) (hR : FRd w A n fs) (hn : n ≤ 9223372036854775807) :
    Calls Tryd.prog 22 #[ruleV least most A n c] w fun e w' => e = .returned (numsOf (chk least most fs)) ∧ Below w.heap.size w w' := by
  cases hh : hdB least most n with
  | true => exact refcheck_ok least most A n c fs w hR hh
  | false => exact refcheck_hd least most A n c fs w hR.len hh hn

end Go.Proofs.YthappdipoofclaaDoor
