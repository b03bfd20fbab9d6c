/-
  THE WALK OF FilterCapped.
-/
import Derived.Test.YthappdipoofclaaDoorAwake
import Derived.Test.YthappdipoofclaaDoorBools
import Derived.Deep.QuietTactic
import Derived.BigQuiet
namespace Go.Proofs.YthappdipoofclaaDoor
set_option linter.unusedSimpArgs false
set_option linter.unusedVariables false
open Go.RowKit


/-- what has passed, what is left: no more than the burst, and the rate for each frame -/
def PInv (rate burst p g x : Int) : Prop := p + x ≤ burst + rate * g
theorem PInv.start (rate burst x : Int) (h : x ≤ burst) : PInv rate burst 0 0 x := by unfold PInv; rw [Int.mul_zero]; omega
theorem PInv.frame {rate burst p g x x' : Int} (h : PInv rate burst p g x) (hx : x' ≤ x + rate) : PInv rate burst p (g + 1) x' := by
  unfold PInv at *
  rw [Int.mul_add, Int.mul_one]
  omega
theorem PInv.take {rate burst p g x : Int} (h : PInv rate burst p g x) : PInv rate burst (p + 1) g (x - 1) := by
  unfold PInv at *
  omega
theorem PInv.le {rate burst p g x : Int} (h : PInv rate burst p g x) (hx : 0 ≤ x) : p ≤ burst + rate * g := by
  unfold PInv at h
  omega

/-- what holds at each round's head -/
structure CapS (w W : World) (gc : Nat) (rate burst : Int) (k : Nat) (p g x : Int) : Prop where
  cap : Blk W gc 41 (capA rate burst x)
  bel : Below w.heap.size w W
  le : w.heap.size ≤ gc
  inv : PInv rate burst p g x
  p0 : 0 ≤ p ∧ p ≤ k
  g0 : 0 ≤ g ∧ g ≤ k
  x0 : 0 ≤ x ∧ x ≤ burst
theorem CapS.step {w W W' : World} {gc : Nat} {rate burst : Int} {k : Nat} {p g x p' g' x' : Int} (h : CapS w W gc rate burst k p g x) (hc : Blk W' gc 41 (capA rate burst x')) (hb : Below w.heap.size w W')
    (hi : PInv rate burst p' g' x') (hp : 0 ≤ p' ∧ p' ≤ (k + 1 : Nat)) (hg : 0 ≤ g' ∧ g' ≤ (k + 1 : Nat)) (hx : 0 ≤ x' ∧ x' ≤ burst) : CapS w W' gc rate burst (k + 1) p' g' x' :=
  ⟨hc, hb, h.le, hi, hp, hg, hx⟩

set_option maxRecDepth 100000 in
set_option maxHeartbeats 1000000 in
theorem filterCapped_no (r b l : Int) (A : Option Addr) (n c : Nat) (rate burst : Int) (w : World) (hm : mayB rate burst burst = false) (hg : ET w) :
    Calls Tryd.prog 6 #[.agg #[.int .i64 r, .int .i64 b, .int .i64 l, .slice A n c, .int .i64 rate, .int .i64 burst]] w fun e w' => e = .returned (.bool true) ∧ Below w.heap.size w w' := by
  have hpos := hg.lt
  have hb0 := (Below.refl w.heap.size w).alloc (Nat.le_refl _) (.cells #[.int .i64 r, .int .i64 b, .int .i64 l, .slice A n c, .int .i64 rate, .int .i64 burst] 44)
  go_enter Tryd.func6, Tryd.ntmps6
  go_wp2
  go_quiet (fail)
  go_wp2_with fail
  refine (begin_no rate burst _ hm).mono ?_
  rintro e w1 ⟨rfl, hb1⟩
  have hbel := (below_drewN hb0 _).trans (hb1.mono (below_drewN hb0 _).size)
  have hbel2 := hbel.alloc hbel.size (.cells (capA 0 0 0) 41)
  clear hb0 hb1 hm
  go_wp2_with fail
  refine (awake_any _ (hg.below hbel2 hpos)).mono ?_
  rintro e w2 ⟨rfl, hb2⟩
  go_wp2_with fail
  go_ret
  exact ⟨rfl, hbel2.trans (hb2.mono hbel2.size)⟩

set_option maxRecDepth 100000 in
set_option maxHeartbeats 4000000 in
theorem filterCapped_yes (r b l : Int) (A : Option Addr) (n c : Nat) (fs : Nat → Bool) (rate burst : Int) (w : World) (hA : BRd w A n fs) (hn : n ≤ 9223372036854775807) (hm : mayB rate burst burst = true) (hg : ET w) :
    Calls Tryd.prog 6 #[.agg #[.int .i64 r, .int .i64 b, .int .i64 l, .slice A n c, .int .i64 rate, .int .i64 burst]] w fun e w' => e = .returned (.bool true) ∧ Below w.heap.size w w' := by
  have hpos := hg.lt
  obtain ⟨h1, h2, h3, h4, h5⟩ := mayB_iff.1 hm
  have hb0 := (Below.refl w.heap.size w).alloc (Nat.le_refl _) (.cells #[.int .i64 r, .int .i64 b, .int .i64 l, .slice A n c, .int .i64 rate, .int .i64 burst] 44)
  go_enter Tryd.func6, Tryd.ntmps6
  go_wp2
  go_quiet (fail)
  go_wp2_with fail
  refine (begin_yes rate burst _ hm).mono ?_
  rintro e w1 ⟨rfl, hb1⟩
  have hbel := (below_drewN hb0 _).trans (hb1.mono (below_drewN hb0 _).size)
  have hbel2 := hbel.alloc hbel.size (.cells (capA rate burst burst) 41)
  have hS0 : CapS w (w1.alloc (.cells (capA rate burst burst) 41)) w1.heap.size rate burst 0 0 0 burst :=
    ⟨Blk.new w1 41 _, hbel2, hbel.size, PInv.start _ _ _ (by omega), by omega, by omega, by omega⟩
  clear hb0 hb1 hm hbel hbel2
  go_wp2_with fail
  go_loopw [9, 10, 11] (fun v u i wr => ∃ (k : Nat) (p g x : Int), k ≤ n ∧ k ≤ 300 ∧ i = .int .i64 (k : Int) ∧ v = .int .i64 p ∧ u = .int .i64 g ∧ CapS w wr w1.heap.size rate burst k p g x) (fun _ _ i _ => n - (intOf i).toNat)
  case atStart => exact ⟨0, 0, 0, burst, by omega, by omega, rfl, rfl, rfl, hS0⟩
  case round =>
    obtain ⟨k, p, g, x, hkn, hk3, rfl, rfl, rfl, hS⟩ := hrel
    clear hS0
    generalize w1.heap.size = gc at *
    by_cases hgo : k < n ∧ k < 300
    · obtain ⟨hlt, hl3⟩ := hgo
      obtain ⟨ad, rfl, hcell⟩ := hA.cells k hlt
      have hcw : wr.cell? (ad.add k) = some (.bool (fs k)) := (hS.bel.cell (block_lt_of_cell hcell)).trans hcell
      have hx0 := hS.x0
      have hp0 := hS.p0
      have hg0 := hS.g0
      have hinv := hS.inv
      have hmm : mayB rate burst x = true := mayB_iff.2 ⟨hx0.1, hx0.2, h3, h4, h5⟩
      have hr64 : rate ≤ 64 := by omega
      clear hcell
      by_cases hfrom : (k : Int) = l
      · have ht : ((k : Int) == l) = true := by rw [beq_iff_eq]; exact hfrom
        have hi0 : PInv rate burst (0) (0) x := PInv.start _ _ _ (by omega)
        have hq1 : 0 ≤ rate * (0) := Int.mul_nonneg h3 (by omega)
        have hq2 : rate * (0) ≤ 64 * 300 := Int.mul_le_mul hr64 (by omega) (by omega) (by omega)
        have HI := Lib.hid hi0
        have HA := Lib.hid hA
        clear hi0 hinv hfrom hA
        obtain ⟨hp1, hp2⟩ := hp0
        obtain ⟨hg1, hg2⟩ := hg0
        obtain ⟨hx1, hx2⟩ := hx0
        cases hb : fs k with
        | true =>
          have hf : 0 ≤ frameL rate burst x ∧ frameL rate burst x ≤ burst ∧ frameL rate burst x ≤ x + rate := by
            unfold frameL
            rw [if_pos hmm]
            omega
          obtain ⟨hf1, hf2, hf3⟩ := hf
          have HI2 := Lib.hid (HI.out.frame hf3)
          rw [hb] at hcw
          clear hb hmm hq1 hq2 hf3
          generalize hx' : frameL rate burst x = x' at *
          have HX := Lib.hid hx'
          clear hx'
          go_wp2_with (refine load41 rfl _ rfl gc rfl rate burst x hS.cap ?_)
          refine (frame_any rate burst x wr).mono ?_
          rintro e w2 ⟨rfl, hb2⟩
          rw [HX.out]
          have hc2 := hS.cap.below hb2 hS.cap.lt
          have hbel2 := hS.bel.trans (hb2.mono hS.bel.size)
          have hc3 := hc2.setRow (capA rate burst x')
          have hbel3 := below_setRow hbel2 hS.le (capA rate burst x')
          clear hcw hb2
          go_wp2_with (refine store41 rfl (.tmp 7) (.tmp 50) rfl gc rfl rate burst x' rfl rate burst x hc2 ?_)
          go_roundw
          case rel => exact ⟨k + 1, 0, 0 + 1, x', by omega, by omega, by go_num, rfl, rfl, hS.step hc3 hbel3 HI2.out (by omega) (by omega) ⟨hf1, hf2⟩⟩
          case measure => simp [intOf]; omega
        | false =>
          rw [hb] at hcw
          clear hb
          by_cases hx : x = 0
          · have et : takeL rate burst 0 = 0 := by simp [takeL]
            have eb : takeB rate burst 0 = false := by simp [takeB]
            subst hx
            have hle := HI.out.le hx1
            have hd1 : decide (burst < 0) = false := by
              have := hle
              rw [decide_eq_false_iff_not]
              rw [Int.mul_zero] at this
              omega
            have hd3 : decide (burst < (0 : Int)) = false := by rw [decide_eq_false_iff_not]; omega
            have ET' := Lib.hid et
            have EB := Lib.hid eb
            clear et eb hmm hle
            go_wp2_with (refine load41 rfl _ rfl gc rfl rate burst 0 hS.cap ?_)
            refine (take_any rate burst 0 wr).mono ?_
            rintro e w2 ⟨rfl, hb2⟩
            rw [ET'.out, EB.out]
            have hc2 := (hS.cap.below hb2 hS.cap.lt).alloc (.cells (capA rate burst 0) 41)
            have hbel2 := hS.bel.trans (hb2.mono hS.bel.size)
            have hbel2' := hbel2.alloc hbel2.size (.cells (capA rate burst 0) 41)
            have hnew := Blk.new w2 41 (capA rate burst 0)
            have hc3 := hc2.setRow (capA rate burst 0)
            have hbel3 := below_setRow hbel2' hS.le (capA rate burst 0)
            have hcl : ((w2.alloc (.cells (capA rate burst 0) 41)).setRow gc (capA rate burst 0)).cell? ⟨gc, 2, none⟩ = some (.int .i64 0) := hc3.cell 2
            clear hcw hb2 hbel2 hbel2'
            go_wp2_with (first
              | (refine load41 rfl (.tmp 12) rfl w2.heap.size rfl rate burst 0 hnew ?_)
              | (refine store41 rfl (.tmp 7) (.tmp 58) rfl gc rfl rate burst 0 rfl rate burst 0 hc2 ?_))
            go_roundw
            case rel => exact ⟨k + 1, 0, 0, 0, by omega, by omega, by go_num, rfl, rfl, hS.step hc3 hbel3 HI.out (by omega) (by omega) ⟨by omega, by omega⟩⟩
            case measure => simp [intOf]; omega
          · have et : takeL rate burst x = x - 1 := by rw [takeL, if_pos ⟨hmm, hx⟩]
            have eb : takeB rate burst x = true := by simp [takeB, hmm, hx]
            have HI2 := Lib.hid HI.out.take
            have hle := HI2.out.le (by omega)
            have hy1 : 0 ≤ x - 1 := by omega
            have hy2 : x - 1 ≤ burst := by omega
            have hd1 : decide (burst < 1) = false := by
              have := hle
              rw [decide_eq_false_iff_not]
              rw [Int.mul_zero] at this
              omega
            have hd2 : decide (x - 1 < 0) = false := by rw [decide_eq_false_iff_not]; omega
            have hd3 : decide (burst < x - 1) = false := by rw [decide_eq_false_iff_not]; omega
            have ET' := Lib.hid et
            have EB := Lib.hid eb
            clear et eb hmm hle hx
            generalize x - 1 = x' at *
            go_wp2_with (refine load41 rfl _ rfl gc rfl rate burst x hS.cap ?_)
            refine (take_any rate burst x wr).mono ?_
            rintro e w2 ⟨rfl, hb2⟩
            rw [ET'.out, EB.out]
            have hc2 := (hS.cap.below hb2 hS.cap.lt).alloc (.cells (capA rate burst x') 41)
            have hbel2 := hS.bel.trans (hb2.mono hS.bel.size)
            have hbel2' := hbel2.alloc hbel2.size (.cells (capA rate burst x') 41)
            have hnew := Blk.new w2 41 (capA rate burst x')
            have hc3 := hc2.setRow (capA rate burst x')
            have hbel3 := below_setRow hbel2' hS.le (capA rate burst x')
            have hcl : ((w2.alloc (.cells (capA rate burst x') 41)).setRow gc (capA rate burst x')).cell? ⟨gc, 2, none⟩ = some (.int .i64 x') := hc3.cell 2
            clear hcw hb2 hbel2 hbel2'
            go_wp2_with (first
              | (refine load41 rfl (.tmp 12) rfl w2.heap.size rfl rate burst x' hnew ?_)
              | (refine store41 rfl (.tmp 7) (.tmp 58) rfl gc rfl rate burst x' rfl rate burst x hc2 ?_))
            go_roundw
            case rel => exact ⟨k + 1, 0 + 1, 0, x', by omega, by omega, by go_num, rfl, rfl, hS.step hc3 hbel3 HI2.out (by omega) (by omega) ⟨hy1, hy2⟩⟩
            case measure => simp [intOf]; omega
      · have ht : ((k : Int) == l) = false := by rw [beq_eq_false_iff_ne]; exact hfrom
        have hi0 : PInv rate burst (p) (g) x := hinv
        have hq1 : 0 ≤ rate * (g) := Int.mul_nonneg h3 (by omega)
        have hq2 : rate * (g) ≤ 64 * 300 := Int.mul_le_mul hr64 (by omega) (by omega) (by omega)
        have HI := Lib.hid hi0
        have HA := Lib.hid hA
        clear hi0 hinv hfrom hA
        obtain ⟨hp1, hp2⟩ := hp0
        obtain ⟨hg1, hg2⟩ := hg0
        obtain ⟨hx1, hx2⟩ := hx0
        cases hb : fs k with
        | true =>
          have hf : 0 ≤ frameL rate burst x ∧ frameL rate burst x ≤ burst ∧ frameL rate burst x ≤ x + rate := by
            unfold frameL
            rw [if_pos hmm]
            omega
          obtain ⟨hf1, hf2, hf3⟩ := hf
          have HI2 := Lib.hid (HI.out.frame hf3)
          rw [hb] at hcw
          clear hb hmm hq1 hq2 hf3
          generalize hx' : frameL rate burst x = x' at *
          have HX := Lib.hid hx'
          clear hx'
          go_wp2_with (refine load41 rfl _ rfl gc rfl rate burst x hS.cap ?_)
          refine (frame_any rate burst x wr).mono ?_
          rintro e w2 ⟨rfl, hb2⟩
          rw [HX.out]
          have hc2 := hS.cap.below hb2 hS.cap.lt
          have hbel2 := hS.bel.trans (hb2.mono hS.bel.size)
          have hc3 := hc2.setRow (capA rate burst x')
          have hbel3 := below_setRow hbel2 hS.le (capA rate burst x')
          clear hcw hb2
          go_wp2_with (refine store41 rfl (.tmp 7) (.tmp 50) rfl gc rfl rate burst x' rfl rate burst x hc2 ?_)
          go_roundw
          case rel => exact ⟨k + 1, p, g + 1, x', by omega, by omega, by go_num, rfl, rfl, hS.step hc3 hbel3 HI2.out (by omega) (by omega) ⟨hf1, hf2⟩⟩
          case measure => simp [intOf]; omega
        | false =>
          rw [hb] at hcw
          clear hb
          by_cases hx : x = 0
          · have et : takeL rate burst 0 = 0 := by simp [takeL]
            have eb : takeB rate burst 0 = false := by simp [takeB]
            subst hx
            have hle := HI.out.le hx1
            have hd1 : decide (burst + rate * g < p) = false := by
              have := hle
              rw [decide_eq_false_iff_not]
              omega
            have hd3 : decide (burst < (0 : Int)) = false := by rw [decide_eq_false_iff_not]; omega
            have ET' := Lib.hid et
            have EB := Lib.hid eb
            clear et eb hmm hle
            go_wp2_with (refine load41 rfl _ rfl gc rfl rate burst 0 hS.cap ?_)
            refine (take_any rate burst 0 wr).mono ?_
            rintro e w2 ⟨rfl, hb2⟩
            rw [ET'.out, EB.out]
            have hc2 := (hS.cap.below hb2 hS.cap.lt).alloc (.cells (capA rate burst 0) 41)
            have hbel2 := hS.bel.trans (hb2.mono hS.bel.size)
            have hbel2' := hbel2.alloc hbel2.size (.cells (capA rate burst 0) 41)
            have hnew := Blk.new w2 41 (capA rate burst 0)
            have hc3 := hc2.setRow (capA rate burst 0)
            have hbel3 := below_setRow hbel2' hS.le (capA rate burst 0)
            have hcl : ((w2.alloc (.cells (capA rate burst 0) 41)).setRow gc (capA rate burst 0)).cell? ⟨gc, 2, none⟩ = some (.int .i64 0) := hc3.cell 2
            clear hcw hb2 hbel2 hbel2'
            go_wp2_with (first
              | (refine load41 rfl (.tmp 12) rfl w2.heap.size rfl rate burst 0 hnew ?_)
              | (refine store41 rfl (.tmp 7) (.tmp 58) rfl gc rfl rate burst 0 rfl rate burst 0 hc2 ?_))
            go_roundw
            case rel => exact ⟨k + 1, p, g, 0, by omega, by omega, by go_num, rfl, rfl, hS.step hc3 hbel3 HI.out (by omega) (by omega) ⟨by omega, by omega⟩⟩
            case measure => simp [intOf]; omega
          · have et : takeL rate burst x = x - 1 := by rw [takeL, if_pos ⟨hmm, hx⟩]
            have eb : takeB rate burst x = true := by simp [takeB, hmm, hx]
            have HI2 := Lib.hid HI.out.take
            have hle := HI2.out.le (by omega)
            have hy1 : 0 ≤ x - 1 := by omega
            have hy2 : x - 1 ≤ burst := by omega
            have hd1 : decide (burst + rate * g < p + 1) = false := by
              have := hle
              rw [decide_eq_false_iff_not]
              omega
            have hd2 : decide (x - 1 < 0) = false := by rw [decide_eq_false_iff_not]; omega
            have hd3 : decide (burst < x - 1) = false := by rw [decide_eq_false_iff_not]; omega
            have ET' := Lib.hid et
            have EB := Lib.hid eb
            clear et eb hmm hle hx
            generalize x - 1 = x' at *
            go_wp2_with (refine load41 rfl _ rfl gc rfl rate burst x hS.cap ?_)
            refine (take_any rate burst x wr).mono ?_
            rintro e w2 ⟨rfl, hb2⟩
            rw [ET'.out, EB.out]
            have hc2 := (hS.cap.below hb2 hS.cap.lt).alloc (.cells (capA rate burst x') 41)
            have hbel2 := hS.bel.trans (hb2.mono hS.bel.size)
            have hbel2' := hbel2.alloc hbel2.size (.cells (capA rate burst x') 41)
            have hnew := Blk.new w2 41 (capA rate burst x')
            have hc3 := hc2.setRow (capA rate burst x')
            have hbel3 := below_setRow hbel2' hS.le (capA rate burst x')
            have hcl : ((w2.alloc (.cells (capA rate burst x') 41)).setRow gc (capA rate burst x')).cell? ⟨gc, 2, none⟩ = some (.int .i64 x') := hc3.cell 2
            clear hcw hb2 hbel2 hbel2'
            go_wp2_with (first
              | (refine load41 rfl (.tmp 12) rfl w2.heap.size rfl rate burst x' hnew ?_)
              | (refine store41 rfl (.tmp 7) (.tmp 58) rfl gc rfl rate burst x' rfl rate burst x hc2 ?_))
            go_roundw
            case rel => exact ⟨k + 1, p + 1, g, x', by omega, by omega, by go_num, rfl, rfl, hS.step hc3 hbel3 HI2.out (by omega) (by omega) ⟨hy1, hy2⟩⟩
            case measure => simp [intOf]; omega
    · by_cases hlt : k < n
      all_goals
        go_wp2_with fail
        refine (awake_any wr (hg.below hS.bel hpos)).mono ?_
        rintro e w2 ⟨rfl, hb2⟩
        go_wp2_with fail
        go_ret
        exact ⟨rfl, hS.bel.trans (hb2.mono hS.bel.size)⟩
theorem filterCapped_walk (r b l : Int) (A : Option Addr) (n c : Nat) (fs : Nat → Bool) (rate burst : Int) (w : World) (hA : BRd w A n fs) (hn : n ≤ 9223372036854775807) (hg : ET w) :
    Calls Tryd.prog 6 #[.agg #[.int .i64 r, .int .i64 b, .int .i64 l, .slice A n c, .int .i64 rate, .int .i64 burst]] w fun e w' => e = .returned (.bool true) ∧ Below w.heap.size w w' := by
  cases hm : mayB rate burst burst with
  | true => exact filterCapped_yes r b l A n c fs rate burst w hA hn hm hg
  | false => exact filterCapped_no r b l A n c rate burst w hm hg
end Go.Proofs.YthappdipoofclaaDoor
