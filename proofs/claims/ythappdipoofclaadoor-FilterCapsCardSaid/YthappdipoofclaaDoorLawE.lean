/-
  THE WALK OF FilterAll.
-/
import Derived.Test.YthappdipoofclaaDoorAwake
import Derived.Deep.RegionHeld3
namespace Go.Proofs.YthappdipoofclaaDoor
set_option linter.unusedSimpArgs false
set_option linter.unusedVariables false
open Go.RowKit

/-- what holds in the loop: the cap, what is left of it -/
structure AllS (w W : World) (gx : Nat) (r b l x : Int) : Prop where
  cap : Blk W w.heap.size 41 (capA r b l)
  cur : Blk W gx 41 (capA r b x)
  bel : Below w.heap.size w W
  lt : w.heap.size < gx
theorem AllS.later {w W W' : World} {gx : Nat} {r b l x : Int} (h : AllS w W gx r b l x) (hb : Below W.heap.size W W') : AllS w W' gx r b l x :=
  ⟨h.cap.below hb h.cap.lt, h.cur.below hb h.cur.lt, h.bel.trans (hb.mono h.bel.size), h.lt⟩
theorem AllS.set {w W : World} {gx : Nat} {r b l x : Int} (h : AllS w W gx r b l x) (x' : Int) : AllS w (W.setRow gx (capA r b x')) gx r b l x' := by
  have hlt := h.lt
  exact ⟨h.cap.setRow_far (by omega) _, h.cur.setRow _, below_setRow h.bel (by omega) _, hlt⟩
theorem AllS.alloc {w W : World} {gx : Nat} {r b l x : Int} (h : AllS w W gx r b l x) (o : Obj) : AllS w (W.alloc o) gx r b l x := h.later ((Below.refl _ _).alloc (Nat.le_refl _) _)

/-- how often has passed behind k takes -/
def gone (l : Int) (k : Nat) : Int := min (k : Int) l

set_option maxRecDepth 100000 in
set_option maxHeartbeats 4000000 in
theorem filterAll_may (r b l : Int) (w : World) (hm : mayB r b l = true) (hg : ET w) :
    Calls Tryd.prog 7 #[capV r b l] w fun e w' => e = .returned (.bool true) ∧ Below w.heap.size w w' := by
  have hpos := hg.lt
  obtain ⟨h1, h2, h3, h4, h5⟩ := mayB_iff.1 hm
  have hB0 := Blk.new w 41 (capA r b l)
  have hb0 := (Below.refl w.heap.size w).alloc (Nat.le_refl _) (.cells (capA r b l) 41)
  go_enter Tryd.func7, Tryd.ntmps7
  go_wp2_with fail
  refine (may_b r b l _).mono ?_
  rintro e w1 ⟨rfl, hb1⟩
  rw [hm]
  have hB1 := hB0.below hb1 hB0.lt
  have hbel1 := hb0.trans (hb1.mono hb0.size)
  have hS0 : AllS w (w1.alloc (.cells (capA r b l) 41)) w1.heap.size r b l (l - gone l 0) := by
    rw [show l - gone l 0 = l by unfold gone; omega]
    exact ⟨hB1.alloc _, Blk.new w1 41 _, hbel1.alloc hbel1.size _, hB1.lt⟩
  clear hb0 hb1 hB0
  go_wp2_with (refine load41 rfl _ rfl w.heap.size rfl r b l hB1 ?_)
  clear hB1 hbel1 hm
  go_loopw [5, 7] (fun n i wr => ∃ k : Nat, k ≤ 70 ∧ i = .int .i64 (k : Int) ∧ n = .int .i64 (gone l k) ∧ AllS w wr w1.heap.size r b l (l - gone l k)) (fun _ i _ => 70 - (intOf i).toNat)
  case atStart => exact ⟨0, by omega, rfl, by unfold gone; rw [show min ((0 : Nat) : Int) l = 0 by omega], hS0⟩
  case round =>
    obtain ⟨k, hk, rfl, rfl, hS⟩ := hrel
    clear hS0
    generalize w1.heap.size = gx at *
    have hgk : 0 ≤ gone l k ∧ gone l k ≤ l ∧ gone l k ≤ 64 := by unfold gone; omega
    by_cases hlt : k < 70
    · by_cases hx : (k : Int) < l
      · have e1 : gone l (k + 1) = gone l k + 1 := by unfold gone; omega
        have e0 : gone l k = (k : Int) := by unfold gone; omega
        have hmm : mayB r b (l - gone l k) = true := mayB_iff.2 ⟨by omega, by omega, h3, h4, h5⟩
        have et : takeL r b (l - gone l k) = l - gone l (k + 1) := by
          rw [takeL, if_pos ⟨hmm, by omega⟩, e1]
          omega
        have eb : takeB r b (l - gone l k) = true := by
          have : l - gone l k ≠ 0 := by omega
          simp [takeB, hmm, this]
        have E1 := Lib.hid e1
        have ET' := Lib.hid et
        have EB := Lib.hid eb
        clear e1 e0 et eb hmm
        generalize hx0 : l - gone l k = x at *
        have HX0 := Lib.hid hx0
        clear hx0
        generalize hx1 : l - gone l (k + 1) = x' at *
        have HX1 := Lib.hid hx1
        clear hx1
        generalize gone l k = n at *
        go_wp2_with (refine load41 rfl _ rfl gx rfl r b x hS.cur ?_)
        refine (take_any r b x wr).mono ?_
        rintro e w2 ⟨rfl, hb2⟩
        rw [ET'.out, EB.out]
        have hS2 := hS.later hb2
        have hS3 := hS2.alloc (.cells (capA r b x') 41)
        have hnew := Blk.new w2 41 (capA r b x')
        have hS4 := hS3.set x'
        clear hb2 hS
        go_wp2_with (first
          | (refine load41 rfl (.tmp 8) rfl w2.heap.size rfl r b x' hnew ?_)
          | (refine store41 rfl (.tmp 6) (.tmp 45) rfl gx rfl r b x' rfl r b x hS3.cur ?_))
        go_roundw
        case rel => exact ⟨k + 1, by omega, by go_num, by rw [E1.out], by rw [HX1.out]; exact hS4⟩
        case measure => simp [intOf]; omega
      · have e1 : gone l (k + 1) = gone l k := by unfold gone; omega
        have e0 : gone l k = l := by unfold gone; omega
        have et : takeL r b 0 = 0 := by simp [takeL]
        have eb : takeB r b 0 = false := by simp [takeB]
        have E1 := Lib.hid e1
        have E0 := Lib.hid e0
        have ET' := Lib.hid et
        have EB := Lib.hid eb
        rw [e0, Int.sub_self] at hS
        rw [e0]
        clear e1 e0 et eb hgk
        go_wp2_with (refine load41 rfl _ rfl gx rfl r b 0 hS.cur ?_)
        refine (take_any r b 0 wr).mono ?_
        rintro e w2 ⟨rfl, hb2⟩
        rw [ET'.out, EB.out]
        have hS2 := hS.later hb2
        have hS3 := hS2.alloc (.cells (capA r b 0) 41)
        have hnew := Blk.new w2 41 (capA r b 0)
        have hS4 := hS3.set 0
        clear hb2 hS
        go_wp2_with (first
          | (refine load41 rfl (.tmp 8) rfl w2.heap.size rfl r b 0 hnew ?_)
          | (refine store41 rfl (.tmp 6) (.tmp 45) rfl gx rfl r b 0 rfl r b 0 hS3.cur ?_))
        go_roundw
        case rel => exact ⟨k + 1, by omega, by go_num, by rw [E1.out, E0.out], by rw [E1.out, E0.out, Int.sub_self]; exact hS4⟩
        case measure => simp [intOf]; omega
    · obtain rfl : k = 70 := by omega
      have e0 : gone l 70 = l := by unfold gone; omega
      rw [e0, Int.sub_self] at hS
      rw [e0]
      have ef : frameL r b 0 = r := by
        have hmm : mayB r b 0 = true := mayB_iff.2 ⟨by omega, by omega, h3, h4, h5⟩
        rw [frameL, if_pos hmm]
        omega
      have EF := Lib.hid ef
      clear e0 ef hgk
      go_wp2_with (refine load41 rfl _ rfl gx rfl r b 0 hS.cur ?_)
      refine (frame_any r b 0 wr).mono ?_
      rintro e w2 ⟨rfl, hb2⟩
      rw [EF.out]
      have hS2 := hS.later hb2
      have hS3 := hS2.alloc (.cells (capA r b r) 41)
      have hnew := Blk.new w2 41 (capA r b r)
      have c1 : (w2.alloc (.cells (capA r b r) 41)).cell? ⟨w.heap.size, 2, none⟩ = some (.int .i64 l) := hS3.cap.cell 2
      have c2 : (w2.alloc (.cells (capA r b r) 41)).cell? ⟨gx, 2, none⟩ = some (.int .i64 0) := hS3.cur.cell 2
      have c3 : (w2.alloc (.cells (capA r b r) 41)).cell? ⟨gx, 0, none⟩ = some (.int .i64 r) := hS3.cur.cell 0
      have c4 : (w2.alloc (.cells (capA r b r) 41)).cell? ⟨w.heap.size, 0, none⟩ = some (.int .i64 r) := hS3.cap.cell 0
      have c5 : (w2.alloc (.cells (capA r b r) 41)).cell? ⟨w2.heap.size, 2, none⟩ = some (.int .i64 r) := hnew.cell 2
      clear hb2 hS hS2
      go_wp2_with fail
      refine (awake_any _ (hg.below hS3.bel hpos)).mono ?_
      rintro e w3 ⟨rfl, hb3⟩
      have hS5 := hS3.later hb3
      go_wp2_with fail
      go_ret
      exact ⟨rfl, hS5.bel⟩
end Go.Proofs.YthappdipoofclaaDoor
