/-
  THE WALKS OF THE CAPS: May, Begin, Take, Frame, and the document's May, Take, Frame.
-/
import Derived.Test.YthappdipoofclaaDoorPath
import Derived.IntWalk
namespace Go.Proofs.YthappdipoofclaaDoor
set_option linter.unusedSimpArgs false
set_option linter.unusedVariables false
open Go.RowKit

/-- a cap that may be -/
def mayB (r b l : Int) : Bool := decide (0 ≤ l ∧ l ≤ b ∧ 0 ≤ r ∧ r ≤ b ∧ b ≤ 64)
theorem mayB_iff {r b l : Int} : mayB r b l = true ↔ (0 ≤ l ∧ l ≤ b ∧ 0 ≤ r ∧ r ≤ b ∧ b ≤ 64) := by simp [mayB]
theorem mayB_no {r b l : Int} (h : ¬ (0 ≤ l ∧ l ≤ b ∧ 0 ≤ r ∧ r ≤ b ∧ b ≤ 64)) : mayB r b l = false := by simpa [mayB] using h
abbrev capV (r b l : Int) : Value := .agg #[.int .i64 r, .int .i64 b, .int .i64 l]

set_option maxHeartbeats 1000000 in
theorem may_any (r b l : Int) (w : World) : Calls Tryd.prog 17 #[capV r b l] w fun e w' => e = .returned (.bool (mayB r b l)) ∧ w.alloc (.cells #[.int .i64 r, .int .i64 b, .int .i64 l] 41) = w' := by
  by_cases h1 : r < 0
  · rw [mayB_no (by omega)]
    go_enter Tryd.func17, Tryd.ntmps17
    go_wp2
    go_ret
    exact ⟨rfl, rfl⟩
  by_cases h2 : 64 < r
  · rw [mayB_no (by omega)]
    go_enter Tryd.func17, Tryd.ntmps17
    go_wp2
    go_ret
    exact ⟨rfl, rfl⟩
  by_cases h3 : b < r
  · rw [mayB_no (by omega)]
    go_enter Tryd.func17, Tryd.ntmps17
    go_wp2
    go_ret
    exact ⟨rfl, rfl⟩
  by_cases h4 : 64 < b
  · rw [mayB_no (by omega)]
    go_enter Tryd.func17, Tryd.ntmps17
    go_wp2
    go_ret
    exact ⟨rfl, rfl⟩
  by_cases h5 : 0 ≤ l
  · by_cases h6 : l ≤ b
    · rw [mayB_iff.2 ⟨h5, h6, by omega, by omega, by omega⟩]
      go_enter Tryd.func17, Tryd.ntmps17
      go_wp2
      go_ret
      exact ⟨rfl, rfl⟩
    · rw [mayB_no (by omega)]
      go_enter Tryd.func17, Tryd.ntmps17
      go_wp2
      go_ret
      exact ⟨rfl, rfl⟩
  · rw [mayB_no (by omega)]
    go_enter Tryd.func17, Tryd.ntmps17
    go_wp2
    go_ret
    exact ⟨rfl, rfl⟩

set_option maxHeartbeats 1000000 in
theorem refmay_any (r b l : Int) (w : World) : Calls Tryd.prog 16 #[capV r b l] w fun e w' => e = .returned (.bool (mayB r b l)) ∧ w.alloc (.cells #[.int .i64 r, .int .i64 b, .int .i64 l] 41) = w' := by
  by_cases h1 : 0 ≤ l
  · by_cases h2 : l ≤ b
    · by_cases h3 : 0 ≤ r
      · by_cases h4 : r ≤ b
        · by_cases h5 : b ≤ 64
          · rw [mayB_iff.2 ⟨h1, h2, h3, h4, h5⟩]
            go_enter Tryd.func16, Tryd.ntmps16
            go_wp2
            go_ret
            exact ⟨rfl, rfl⟩
          · rw [mayB_no (by omega)]
            go_enter Tryd.func16, Tryd.ntmps16
            go_wp2
            go_ret
            exact ⟨rfl, rfl⟩
        · rw [mayB_no (by omega)]
          go_enter Tryd.func16, Tryd.ntmps16
          go_wp2
          go_ret
          exact ⟨rfl, rfl⟩
      · rw [mayB_no (by omega)]
        go_enter Tryd.func16, Tryd.ntmps16
        go_wp2
        go_ret
        exact ⟨rfl, rfl⟩
    · rw [mayB_no (by omega)]
      go_enter Tryd.func16, Tryd.ntmps16
      go_wp2
      go_ret
      exact ⟨rfl, rfl⟩
  · rw [mayB_no (by omega)]
    go_enter Tryd.func16, Tryd.ntmps16
    go_wp2
    go_ret
    exact ⟨rfl, rfl⟩

set_option maxHeartbeats 1000000 in
theorem begin_yes (r b : Int) (w : World) (hm : mayB r b b = true) : Calls Tryd.prog 15 #[.int .i64 r, .int .i64 b] w fun e w' => e = .returned (.tuple #[capV r b b, .int .i64 0]) ∧ Below w.heap.size w w' := by
  go_enter Tryd.func15, Tryd.ntmps15
  go_wp2_with fail
  refine (may_any r b b _).mono ?_
  rintro e w' ⟨rfl, rfl⟩
  rw [hm]
  go_wp2
  exact bodyPost_ret (v := .tuple #[capV r b b, .int .i64 0]) (by simp [results, Tryd.results15, go_sem]) rfl ⟨rfl, by
    refine Below.alloc ?_ (by simp; omega) _
    refine Below.alloc ?_ (by simp) _
    exact (Below.refl _ _).alloc (Nat.le_refl _) _⟩
set_option maxHeartbeats 1000000 in
theorem begin_no (r b : Int) (w : World) (hm : mayB r b b = false) : Calls Tryd.prog 15 #[.int .i64 r, .int .i64 b] w fun e w' => e = .returned (.tuple #[capV 0 0 0, .int .i64 1]) ∧ Below w.heap.size w w' := by
  go_enter Tryd.func15, Tryd.ntmps15
  go_wp2_with fail
  refine (may_any r b b _).mono ?_
  rintro e w' ⟨rfl, rfl⟩
  rw [hm]
  go_wp2
  exact bodyPost_ret (v := .tuple #[capV 0 0 0, .int .i64 1]) (by simp [results, Tryd.results15, go_sem]) rfl ⟨rfl, by
    refine Below.alloc ?_ (by simp; omega) _
    refine Below.alloc ?_ (by simp) _
    exact (Below.refl _ _).alloc (Nat.le_refl _) _⟩

/-- what Take answers -/
def takeL (r b l : Int) : Int := if mayB r b l = true ∧ l ≠ 0 then l - 1 else l
def takeB (r b l : Int) : Bool := mayB r b l && decide (l ≠ 0)
/-- what Frame answers -/
def frameL (r b l : Int) : Int := if mayB r b l = true then min (l + r) b else l

set_option maxHeartbeats 1000000 in
theorem take_any (r b l : Int) (w : World) : Calls Tryd.prog 20 #[capV r b l] w fun e w' => e = .returned (.tuple #[capV r b (takeL r b l), .bool (takeB r b l)]) ∧ Below w.heap.size w w' := by
  cases hm : mayB r b l with
  | false =>
    have e1 : takeL r b l = l := by simp [takeL, hm]
    have e2 : takeB r b l = false := by simp [takeB, hm]
    rw [e1, e2]
    clear e1 e2
    go_enter Tryd.func20, Tryd.ntmps20
    go_wp2_with fail
    refine (may_any r b l _).mono ?_
    rintro e w' ⟨rfl, rfl⟩
    rw [hm]
    go_wp2
    exact bodyPost_ret (v := .tuple #[capV r b l, .bool false]) (by simp [results, Tryd.results20, go_sem]) rfl ⟨rfl, by
      refine Below.alloc ?_ (by simp; omega) _
      refine Below.alloc ?_ (by simp) _
      exact (Below.refl _ _).alloc (Nat.le_refl _) _⟩
  | true =>
    obtain ⟨h1, h2, h3, h4, h5⟩ := mayB_iff.1 hm
    by_cases h0 : l = 0
    · have e1 : takeL r b l = l := by simp [takeL, h0]
      have e2 : takeB r b l = false := by simp [takeB, h0]
      rw [e1, e2]
      clear e1 e2
      subst h0
      go_enter Tryd.func20, Tryd.ntmps20
      go_wp2_with fail
      refine (may_any r b 0 _).mono ?_
      rintro e w' ⟨rfl, rfl⟩
      rw [hm]
      go_wp2
      exact bodyPost_ret (v := .tuple #[capV r b 0, .bool false]) (by simp [results, Tryd.results20, go_sem]) rfl ⟨rfl, by
        refine Below.alloc ?_ (by simp; omega) _
        refine Below.alloc ?_ (by simp) _
        exact (Below.refl _ _).alloc (Nat.le_refl _) _⟩
    · have e1 : takeL r b l = l - 1 := by simp [takeL, hm, h0]
      have e2 : takeB r b l = true := by simp [takeB, hm, h0]
      rw [e1, e2]
      clear e1 e2
      have hz : (l == 0) = false := by simpa using h0
      have hz2 : decide (l = 0) = false := by simpa using h0
      clear h0
      go_enter Tryd.func20, Tryd.ntmps20
      go_wp2_with fail
      refine (may_any r b l _).mono ?_
      rintro e w' ⟨rfl, rfl⟩
      rw [hm]
      go_wp2
      exact bodyPost_ret (v := .tuple #[capV r b (l - 1), .bool true]) (by simp [results, Tryd.results20, go_sem]) rfl ⟨rfl, by
        refine Below.alloc ?_ (by simp; omega) _
        refine Below.alloc ?_ (by simp) _
        exact (Below.refl _ _).alloc (Nat.le_refl _) _⟩

theorem refmay_b (r b l : Int) (w : World) : Calls Tryd.prog 16 #[capV r b l] w fun e w' => e = .returned (.bool (mayB r b l)) ∧ Below w.heap.size w w' := by
  refine (refmay_any r b l w).mono ?_
  rintro e w' ⟨rfl, rfl⟩
  exact ⟨rfl, (Below.refl _ _).alloc (Nat.le_refl _) _⟩
theorem may_b (r b l : Int) (w : World) : Calls Tryd.prog 17 #[capV r b l] w fun e w' => e = .returned (.bool (mayB r b l)) ∧ Below w.heap.size w w' := by
  refine (may_any r b l w).mono ?_
  rintro e w' ⟨rfl, rfl⟩
  exact ⟨rfl, (Below.refl _ _).alloc (Nat.le_refl _) _⟩

set_option maxHeartbeats 1000000 in
theorem reftake_any (r b l : Int) (w : World) : Calls Tryd.prog 21 #[capV r b l] w fun e w' => e = .returned (.tuple #[capV r b (takeL r b l), .bool (takeB r b l)]) ∧ Below w.heap.size w w' := by
  cases hm : mayB r b l with
  | false =>
    have e1 : takeL r b l = l := by simp [takeL, hm]
    have e2 : takeB r b l = false := by simp [takeB, hm]
    rw [e1, e2]
    clear e1 e2
    go_enter Tryd.func21, Tryd.ntmps21
    go_wp2_with fail
    refine (refmay_any r b l _).mono ?_
    rintro e w' ⟨rfl, rfl⟩
    rw [hm]
    go_wp2
    exact bodyPost_ret (v := .tuple #[capV r b l, .bool false]) (by simp [results, Tryd.results21, go_sem]) rfl ⟨rfl, by
      refine Below.alloc ?_ (by simp; omega) _
      refine Below.alloc ?_ (by simp) _
      exact (Below.refl _ _).alloc (Nat.le_refl _) _⟩
  | true =>
    obtain ⟨h1, h2, h3, h4, h5⟩ := mayB_iff.1 hm
    by_cases h0 : l = 0
    · have e1 : takeL r b l = l := by simp [takeL, h0]
      have e2 : takeB r b l = false := by simp [takeB, h0]
      rw [e1, e2]
      clear e1 e2
      subst h0
      go_enter Tryd.func21, Tryd.ntmps21
      go_wp2_with fail
      refine (refmay_any r b 0 _).mono ?_
      rintro e w' ⟨rfl, rfl⟩
      rw [hm]
      go_wp2
      exact bodyPost_ret (v := .tuple #[capV r b 0, .bool false]) (by simp [results, Tryd.results21, go_sem]) rfl ⟨rfl, by
        refine Below.alloc ?_ (by simp; omega) _
        refine Below.alloc ?_ (by simp) _
        exact (Below.refl _ _).alloc (Nat.le_refl _) _⟩
    · have e1 : takeL r b l = l - 1 := by simp [takeL, hm, h0]
      have e2 : takeB r b l = true := by simp [takeB, hm, h0]
      rw [e1, e2]
      clear e1 e2
      have hz : 0 < l := by omega
      clear h0
      go_enter Tryd.func21, Tryd.ntmps21
      go_wp2_with fail
      refine (refmay_any r b l _).mono ?_
      rintro e w' ⟨rfl, rfl⟩
      rw [hm]
      go_wp2
      exact bodyPost_ret (v := .tuple #[capV r b (l - 1), .bool true]) (by simp [results, Tryd.results21, go_sem]) rfl ⟨rfl, by
        refine Below.alloc ?_ (by simp; omega) _
        refine Below.alloc ?_ (by simp) _
        exact (Below.refl _ _).alloc (Nat.le_refl _) _⟩

set_option maxHeartbeats 1000000 in
theorem frame_any (r b l : Int) (w : World) : Calls Tryd.prog 18 #[capV r b l] w fun e w' => e = .returned (capV r b (frameL r b l)) ∧ Below w.heap.size w w' := by
  cases hm : mayB r b l with
  | false =>
    have e1 : frameL r b l = l := by simp [frameL, hm]
    rw [e1]
    clear e1
    go_enter Tryd.func18, Tryd.ntmps18
    go_wp2_with fail
    refine (may_any r b l _).mono ?_
    rintro e w' ⟨rfl, rfl⟩
    rw [hm]
    go_wp2
    exact bodyPost_ret (v := capV r b l) (by simp [results, Tryd.results18, go_sem]) rfl ⟨rfl, by
      refine Below.alloc ?_ (by simp; omega) _
      refine Below.alloc ?_ (by simp) _
      exact (Below.refl _ _).alloc (Nat.le_refl _) _⟩
  | true =>
    obtain ⟨h1, h2, h3, h4, h5⟩ := mayB_iff.1 hm
    have e1 : frameL r b l = min (l + r) b := by
      unfold frameL
      rw [if_pos hm]
    rw [e1]
    clear e1
    go_enter Tryd.func18, Tryd.ntmps18
    go_wp2_with fail
    refine (may_any r b l _).mono ?_
    rintro e w' ⟨rfl, rfl⟩
    rw [hm]
    go_wp2
    exact bodyPost_ret (v := capV r b (min (l + r) b)) (by simp [results, Tryd.results18, go_sem]) rfl ⟨rfl, by
      refine Below.alloc ?_ (by simp; omega) _
      refine Below.alloc ?_ (by simp) _
      exact (Below.refl _ _).alloc (Nat.le_refl _) _⟩

theorem info41 : (Tryd.prog.info? 41).map (·.size) = some 3 := by kernel_rfl
section
variable {ops : Array Oper} {rest : List Oper} {o : Oper} {a : Act} {w : World} {Q : Exit → Act → World → Prop}
theorem load41 (hgd : o.guard = none) (x : Operand) (ho : o.op = .load 41 x) (g : Nat) (hx : a.eval x = .pointer (some ⟨g, 0, none⟩)) (r b l : Int) (hb : Blk w g 41 #[.int .i64 r, .int .i64 b, .int .i64 l])
    (h : wpList Tryd.prog ops Q rest (a.put o.dst (capV r b l)) w) : wpList Tryd.prog ops Q (o :: rest) a w :=
  wpList_load_row hgd 41 x ho g hx 41 _ (0, 0) _ hb Tryd.underlying41 rfl info41 h
theorem store41 (hgd : o.guard = none) (x y : Operand) (ho : o.op = .store 41 x y) (g : Nat) (hx : a.eval x = .pointer (some ⟨g, 0, none⟩)) (r b l : Int) (hy : a.eval y = capV r b l) (r0 b0 l0 : Int) (hb : Blk w g 41 #[.int .i64 r0, .int .i64 b0, .int .i64 l0])
    (h : wpList Tryd.prog ops Q rest (a.put o.dst undef) (w.setRow g #[.int .i64 r, .int .i64 b, .int .i64 l])) : wpList Tryd.prog ops Q (o :: rest) a w :=
  wpList_store_row hgd 41 x y ho g #[.int .i64 r, .int .i64 b, .int .i64 l] hx hy 41 _ hb info41 rfl (by simp [Value.oneCell']) h
end
abbrev capA (r b l : Int) : Array Value := #[.int .i64 r, .int .i64 b, .int .i64 l]

/-- what holds at each round's head of the document's Frame -/
structure FrInv (w wr : World) (r b l : Int) (k : Nat) : Prop where
  lek : (k : Int) ≤ r
  cur : Blk wr w.heap.size 41 (capA r b (min (l + k) b))
  res : Blk wr (w.heap.size + 1) 41 (capA 0 0 0)
  bel : Below w.heap.size w wr

set_option maxRecDepth 100000 in
set_option maxHeartbeats 1000000 in
theorem refframe_any (r b l : Int) (w : World) : Calls Tryd.prog 19 #[capV r b l] w fun e w' => e = .returned (capV r b (frameL r b l)) ∧ Below w.heap.size w w' := by
  cases hm : mayB r b l with
  | false =>
    have e1 : frameL r b l = l := by simp [frameL, hm]
    rw [e1]
    clear e1
    go_enter Tryd.func19, Tryd.ntmps19
    go_wp2_with fail
    refine wp_loop_rounds 1 ?_
    rw [rounds_succ]
    go_wp2_with fail
    refine (refmay_any r b l _).mono ?_
    rintro e w' ⟨rfl, rfl⟩
    rw [hm]
    go_wp2
    exact bodyPost_ret (v := capV r b l) (by simp [results, Tryd.results19, go_sem]) rfl ⟨rfl, by
      refine Below.alloc ?_ (by simp; omega) _
      refine Below.alloc ?_ (by simp) _
      exact (Below.refl _ _).alloc (Nat.le_refl _) _⟩
  | true =>
    obtain ⟨h1, h2, h3, h4, h5⟩ := mayB_iff.1 hm
    have e1 : frameL r b l = min (l + r) b := by
      unfold frameL
      rw [if_pos hm]
    rw [e1]
    clear e1
    have hb0 : Below w.heap.size w ((w.alloc (.cells (capA r b l) 41)).alloc (.cells (capA 0 0 0) 41)) := ((Below.refl _ _).alloc (Nat.le_refl _) _).alloc (by simp) _
    have hc0 : Blk ((w.alloc (.cells (capA r b l) 41)).alloc (.cells (capA 0 0 0) 41)) w.heap.size 41 (capA r b (min (l + (0 : Nat)) b)) := by
      rw [show min (l + ((0 : Nat) : Int)) b = l by omega]
      exact (Blk.new w 41 _).alloc _
    have hr0 := Blk.at1 w (.cells (capA r b l) 41) 41 (capA 0 0 0) (capA 0 0 0) rfl
    go_enter Tryd.func19, Tryd.ntmps19
    go_wp2_with fail
    go_loopw [3] (fun i wr => ∃ k : Nat, i = .int .i64 (k : Int) ∧ FrInv w wr r b l k) (fun i _ => (r - intOf i).toNat)
    case atStart => exact ⟨0, rfl, by simpa using h3, hc0, hr0, hb0⟩
    case round =>
      obtain ⟨k, rfl, hI⟩ := hrel
      clear hb0 hc0 hr0
      have hk := hI.lek
      have hcur := hI.cur
      have hml : mayB r b (min (l + k) b) = true := mayB_iff.2 ⟨by omega, by omega, h3, h4, h5⟩
      have hx1 : 0 ≤ min (l + (k : Int)) b := by omega
      have hx2 : min (l + (k : Int)) b ≤ b := by omega
      have hx3 : min (min (l + (k : Int)) b + 1) b = min (l + ((k + 1 : Nat) : Int)) b := by omega
      have Hx3 := Lib.hid hx3
      have hfin : (k : Int) = r → min (l + (k : Int)) b = min (l + r) b := fun e => by rw [e]
      have Hfin := Lib.hid hfin
      have hres := hI.res
      have hbel := hI.bel
      clear hI hx3 hfin hm
      generalize min (l + (k : Int)) b = m at *
      have hwr := hcur.lt
      go_wp2_with (refine load41 rfl _ rfl w.heap.size rfl r b m hcur ?_)
      refine (refmay_b r b m wr).mono ?_
      rintro e w2 ⟨rfl, hb2⟩
      rw [hml]
      have hcur2 := hcur.below hb2 hcur.lt
      have hres2 := hres.below hb2 hres.lt
      have hbel2 := hbel.trans (hb2.mono hbel.size)
      have hc20 : w2.cell? ⟨w.heap.size, 0, none⟩ = some (.int .i64 r) := hcur2.cell 0
      have hc21 : w2.cell? ⟨w.heap.size, 1, none⟩ = some (.int .i64 b) := hcur2.cell 1
      have hc22 : w2.cell? ⟨w.heap.size, 2, none⟩ = some (.int .i64 m) := hcur2.cell 2
      have hf22 := hcur2.frozen 2
      clear hcur hres hbel hb2 hml
      by_cases hlt : (k : Int) < r
      · by_cases hmb : m < b
        · have hI3 : FrInv w (w2.setCell ⟨w.heap.size, 2, none⟩ (.int .i64 (m + 1))) r b l (k + 1) := ⟨by omega, by
            rw [← Hx3.out, show min (m + 1) b = m + 1 by omega]
            exact hcur2.set_ 2 _, hres2.far (by simp) _, hbel2.setCell (p := ⟨w.heap.size, 2, none⟩) (Nat.le_refl _) _⟩
          go_wp2
          go_roundw
          case rel => exact ⟨k + 1, by go_num, hI3⟩
          case measure => simp [intOf]; omega
        · have hI3 : FrInv w w2 r b l (k + 1) := ⟨by omega, by
            rw [← Hx3.out, show min (m + 1) b = m by omega]
            exact hcur2, hres2, hbel2⟩
          go_wp2
          go_roundw
          case rel => exact ⟨k + 1, by go_num, hI3⟩
          case measure => simp [intOf]; omega
      · have hkr : (k : Int) = r := by omega
        have HF := Lib.hid (Hfin.out hkr)
        clear hkr
        go_wp2_with (first
          | (refine load41 rfl _ rfl w.heap.size rfl r b m hcur2 ?_)
          | (refine store41 rfl _ _ rfl (w.heap.size + 1) rfl r b m rfl 0 0 0 hres2 ?_))
        exact bodyPost_ret (results_cell_row rfl _ _ (w.heap.size + 1) 41 _ (0, 0) _ rfl (hres2.setRow _) Tryd.underlying41 rfl info41) rfl ⟨congrArg (fun x => Ending.returned (capV r b x)) HF.out, below_setRow hbel2 (by omega) _⟩
end Go.Proofs.YthappdipoofclaaDoor
