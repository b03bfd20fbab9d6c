/-
  THE WALK OF THE DOCUMENT's Pass, of a rule that may be.
-/
import Derived.Test.YthappdipoofclaaDoorAwake
import Derived.Test.YthappdipoofclaaDoorRuleR
import Derived.Deep.QuietTactic
import Derived.BigQuiet
namespace Go.Proofs.YthappdipoofclaaDoor
set_option linter.unusedSimpArgs false
set_option linter.unusedVariables false
open Go.RowKit

set_option maxRecDepth 100000 in
set_option maxHeartbeats 1000000 in
theorem refpass_short (least most : Int) (A : Option Addr) (n c : Nat) (B : Option Addr) (m cb : Nat) (w : World) (hm : m ≤ 9223372036854775807) (hs : (m : Int) < least) :
    Calls Tryd.prog 26 #[ruleV least most A n c, .slice B m cb] w fun e w' => e = .returned (.tuple #[.int .i64 2, .int .i64 (m : Int)]) ∧ Below w.heap.size w w' := by
  have hb := (Below.refl w.heap.size w).alloc (Nat.le_refl _) (.cells (ruleA least most A n c) 30)
  go_enter Tryd.func26, Tryd.ntmps26
  go_wp2
  go_ret2
  exact ⟨rfl, hb⟩
set_option maxRecDepth 100000 in
set_option maxHeartbeats 1000000 in
theorem refpass_long (least most : Int) (A : Option Addr) (n c : Nat) (B : Option Addr) (m cb : Nat) (w : World) (hm : m ≤ 9223372036854775807) (hs : least ≤ (m : Int)) (hl : most < (m : Int)) :
    Calls Tryd.prog 26 #[ruleV least most A n c, .slice B m cb] w fun e w' => e = .returned (.tuple #[.int .i64 7, .int .i64 most]) ∧ Below w.heap.size w w' := by
  have hb := (Below.refl w.heap.size w).alloc (Nat.le_refl _) (.cells (ruleA least most A n c) 30)
  go_enter Tryd.func26, Tryd.ntmps26
  go_wp2
  go_quiet (fail)
  go_wp2
  go_ret2
  exact ⟨rfl, below_drewN hb _⟩

set_option maxRecDepth 100000 in
set_option maxHeartbeats 4000000 in
theorem refpass_loop (least most : Int) (A : Option Addr) (n c : Nat) (fs : List Fld) (B : Option Addr) (m cb : Nat) (bs : List UInt8) (w : World) (hR : FRd w A n fs) (hn : n ≤ 8) (hB : Rd w B m bs) (hmc : m ≤ cb) (hm : m ≤ 9223372036854775807) (hall : ∀ f ∈ fs, okB f = true)
    (hs : least ≤ (m : Int)) (hl : (m : Int) ≤ most) :
    Calls Tryd.prog 26 #[ruleV least most A n c, .slice B m cb] w fun e w' => e = .returned (numsOf (psn least most fs bs)) ∧ Below w.heap.size w w' := by
  have hlen := hR.len
  have hml := hB.len
  have hp3 : ∀ (k : Nat) (f : Fld), fs[k]? = some f → satB f bs = false → (∀ (j : Nat) (g : Fld), j < k → fs[j]? = some g → satB g bs = true) → numsOf (psn least most fs bs) = .tuple #[.int .i64 3, .int .i64 (k : Int)] := fun k f h1 h2 h3 => by
    rw [psn_bad (by rw [hml]; omega) (by rw [hml]; omega) h1 h2 h3, numsOf_some]
  have hp4 : (∀ (j : Nat) (g : Fld), j < n → fs[j]? = some g → satB g bs = true) → numsOf (psn least most fs bs) = .tuple #[.int .i64 0, .int .i64 0] := fun h => by
    rw [psn_ok (by rw [hml]; omega) (by rw [hml]; omega) (by rw [hlen]; exact h), numsOf_none]
  have HP3 := Lib.hid hp3
  have HP4 := Lib.hid hp4
  have HALL := Lib.hid hall
  have HML := Lib.hid hml
  have hb0 := (Below.refl w.heap.size w).alloc (Nat.le_refl _) (.cells (ruleA least most A n c) 30)
  have hr0 := Blk.new w 30 (ruleA least most A n c)
  clear hp3 hp4 hall hml hlen
  go_enter Tryd.func26, Tryd.ntmps26
  go_wp2_with fail
  go_loopw [6] (fun i wr => ∃ k : Nat, k ≤ n ∧ i = .int .i64 (k : Int) ∧ Hid (∀ (j : Nat) (g : Fld), j < k → fs[j]? = some g → satB g bs = true) ∧ Below w.heap.size w wr ∧ Blk wr w.heap.size 30 (ruleA least most A n c)) (fun i _ => n - (intOf i).toNat)
  case atStart => exact ⟨0, Nat.zero_le _, rfl, Lib.hid (fun j g hj => absurd hj (by omega)), hb0, hr0⟩
  case round =>
    obtain ⟨k, hk, rfl, hp, hbel, hr⟩ := hrel
    clear hb0 hr0
    have hr3 : wr.cell? ⟨w.heap.size, 2, none⟩ = some (.slice A n c) := hr.cell 2
    by_cases hlt : k < n
    · obtain ⟨ad, f, rfl, hf, hc⟩ := hR.at_ hlt
      have hof := HALL.out f (List.mem_of_getElem? hf)
      obtain ⟨p, s, l, h⟩ := f
      obtain ⟨g1, g2, g3, g4, g5⟩ := okB_iff.1 hof
      obtain ⟨p, rfl⟩ := Int.eq_ofNat_of_zero_le g3
      obtain ⟨s, rfl⟩ := Int.eq_ofNat_of_zero_le (show 0 ≤ s by have : (1 : Int) ≤ s := g1; omega)
      have g1' : 1 ≤ s := by have : (1 : Int) ≤ (s : Int) := g1; omega
      have g2' : s ≤ 8 := by have : (s : Int) ≤ 8 := g2; omega
      have g4' : p ≤ 64 := by have : (p : Int) ≤ 64 - (s : Int) := g4; omega
      have hcw : ∀ j v, (fldA ⟨(p : Int), (s : Int), l, h⟩)[j]? = some v → wr.cell? ((ad.add (k * 4)).add j) = some v := fun j v hj => (hbel.cell (block_lt_of_cell (hc j v hj))).trans (hc j v hj)
      have Hf := Lib.hid hf
      clear hf hc g1 g2 g3 g4 g5 hof
      have hbel2 := hbel.alloc hbel.size (.cells (fldA ⟨(p : Int), (s : Int), l, h⟩) 38)
      have hrr := hr.alloc (.cells (fldA ⟨(p : Int), (s : Int), l, h⟩) 38)
      have hbad : satB ⟨(p : Int), (s : Int), l, h⟩ bs = false → Hid (numsOf (psn least most fs bs) = .tuple #[.int .i64 3, .int .i64 (k : Int)]) := fun ho => Lib.hid (HP3.out k _ Hf.out ho hp.out)
      have hgood : satB ⟨(p : Int), (s : Int), l, h⟩ bs = true → Hid (∀ (j : Nat) (g : Fld), j < k + 1 → fs[j]? = some g → satB g bs = true) := fun ho => Lib.hid (fun j g hj hg => by
        rcases Nat.lt_or_ge j k with h | h
        · exact hp.out j g h hg
        · obtain rfl : j = k := by omega
          rw [Hf.out] at hg
          injection hg with hg
          rw [← hg, ho])
      have HBAD := Lib.hid hbad
      have HGOOD := Lib.hid hgood
      clear hp hbad hgood
      by_cases h1 : p + s ≤ m
      · obtain ⟨bd, rfl, _⟩ := hB.cells (by omega)
        have hR2 := (hB.piece p s h1).grown hbel2
        have hn := fnum_piece ⟨(p : Int), (s : Int), l, h⟩ bs s rfl
        rw [show (⟨(p : Int), (s : Int), l, h⟩ : Fld).at_.toNat = p from Int.toNat_natCast p] at hn
        have HN := Lib.hid hn
        have hpc : p + s ≤ cb := by omega
        have hpc2 : p < cb := by omega
        clear hn
        go_wp2_with (refine load38 rfl _ rfl (ad.add (k * 4)) rfl ⟨(p : Int), (s : Int), l, h⟩ hcw ?_)
        refine (refnumber_any _ s (cb - p) _ _ hR2 g2').mono ?_
        rintro e w' ⟨rfl, rfl⟩
        rw [HN.out]
        have hsum : ((p : Int) + (s : Int) ≤ (bs.length : Int)) := by rw [HML.out]; omega
        have hyes : l ≤ (fnum ⟨(p : Int), (s : Int), l, h⟩ bs : Int) → (fnum ⟨(p : Int), (s : Int), l, h⟩ bs : Int) ≤ h → satB ⟨(p : Int), (s : Int), l, h⟩ bs = true := fun a b => satB_iff.2 ⟨hsum, a, b⟩
        have hno1 : ¬ l ≤ (fnum ⟨(p : Int), (s : Int), l, h⟩ bs : Int) → satB ⟨(p : Int), (s : Int), l, h⟩ bs = false := fun a => satB_no (fun x => a x.2.1)
        have hno2 : ¬ (fnum ⟨(p : Int), (s : Int), l, h⟩ bs : Int) ≤ h → satB ⟨(p : Int), (s : Int), l, h⟩ bs = false := fun a => satB_no (fun x => a x.2.2)
        have HY := Lib.hid hyes
        have HN1 := Lib.hid hno1
        have HN2 := Lib.hid hno2
        clear hyes hno1 hno2 hsum hR2 HN hcw
        generalize (fnum ⟨(p : Int), (s : Int), l, h⟩ bs : Int) = N at *
        by_cases hlo : l ≤ N
        · by_cases hhi : N ≤ h
          · have hp2 := HGOOD.out (HY.out hlo hhi)
            go_wp2
            go_roundw
            case rel => exact ⟨k + 1, by omega, by go_num, hp2, hbel2, hrr⟩
            case measure => simp [intOf]; omega
          · have HF := HBAD.out (HN2.out hhi)
            go_wp2
            go_ret2
            rw [HF.out]
            exact ⟨rfl, hbel2⟩
        · have HF := HBAD.out (HN1.out hlo)
          go_wp2
          go_ret2
          rw [HF.out]
          exact ⟨rfl, hbel2⟩
      · have HF := HBAD.out (satB_no (fun x => h1 (by have := x.1; rw [HML.out] at this; simp at this; omega)))
        go_wp2_with (refine load38 rfl _ rfl (ad.add (k * 4)) rfl ⟨(p : Int), (s : Int), l, h⟩ hcw ?_)
        go_ret2
        rw [HF.out]
        exact ⟨rfl, hbel2⟩
    · obtain rfl : k = n := by omega
      have HFIN := Lib.hid (HP4.out hp.out)
      clear hp
      go_wp2_with fail
      go_ret2
      rw [HFIN.out]
      exact ⟨rfl, hbel⟩
theorem refpass_any (least most : Int) (A : Option Addr) (n c : Nat) (fs : List Fld) (B : Option Addr) (m cb : Nat) (bs : List UInt8) (w : World) (hR : FRd w A n fs) (hB : Rd w B m bs) (hmc : m ≤ cb) (hm : m ≤ 9223372036854775807) (hx : chk least most fs = none) :
    Calls Tryd.prog 26 #[ruleV least most A n c, .slice B m cb] w fun e w' => e = .returned (numsOf (psn least most fs bs)) ∧ Below w.heap.size w w' := by
  obtain ⟨hd, hall⟩ := chk_none hx
  rw [hR.len] at hd
  obtain ⟨_, _, _, h4⟩ := hdB_iff.1 hd
  have hml := hB.len
  by_cases hs : (m : Int) < least
  · rw [psn_short (by rw [hml]; exact hs), numsOf_some, hml]
    exact refpass_short least most A n c B m cb w hm hs
  by_cases hl : most < (m : Int)
  · rw [psn_long (by rw [hml]; exact hs) (by rw [hml]; exact hl), numsOf_some]
    exact refpass_long least most A n c B m cb w hm (by omega) hl
  exact refpass_loop least most A n c fs B m cb bs w hR h4 hB hmc hm hall (by omega) (by omega)
end Go.Proofs.YthappdipoofclaaDoor
