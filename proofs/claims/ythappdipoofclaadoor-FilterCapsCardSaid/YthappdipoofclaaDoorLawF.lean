/-
  THE WALK OF FilterAll, where the cap may not be.
-/
import Derived.Test.YthappdipoofclaaDoorLawE
import Derived.Test.YthappdipoofclaaDoorEqCap
namespace Go.Proofs.YthappdipoofclaaDoor
set_option linter.unusedSimpArgs false
set_option linter.unusedVariables false
open Go.RowKit

/-- cells that hold what they held, in the last region -/
structure KeepS (w : World) (L : List (Nat × List Value)) (W : World) : Prop where
  all : ∀ x ∈ L, W.rangeAt x.1 0 x.2
  bel : Below w.heap.size w W
theorem KeepS.drew {w W : World} {L : List (Nat × List Value)} (h : KeepS w L W) : KeepS w L W.drew :=
  ⟨fun x hx => (World.rangeAt_drew _ _ _ _).2 (h.all x hx), h.bel.drew⟩
theorem KeepS.grown {w W W' : World} {L : List (Nat × List Value)} (h : KeepS w L W) (hb : Below W.heap.size W W') : KeepS w L W' :=
  ⟨fun x hx j v hj => (hb.cell (block_lt_of_cell (h.all x hx j v hj))).trans (h.all x hx j v hj), h.bel.trans (hb.mono h.bel.size)⟩
theorem Blk.rangeOf {w : World} {g : Nat} {t : TypeId} {l : List Value} (h : Blk w g t l.toArray) : w.rangeAt g 0 l := fun j v hj => by
  rw [h.cell]
  simpa using hj

set_option maxRecDepth 100000 in
set_option maxHeartbeats 4000000 in
theorem filterAll_mayNot (r b l : Int) (w : World) (hm : mayB r b l = false) (hg : ET w) :
    Calls Tryd.prog 7 #[capV r b l] w fun e w' => e = .returned (.bool true) ∧ Below w.heap.size w w' := by
  have hpos := hg.lt
  have hB0 := Blk.new w 41 (capA r b l)
  have hb0 := (Below.refl w.heap.size w).alloc (Nat.le_refl _) (.cells (capA r b l) 41)
  have et : takeL r b l = l := by simp [takeL, hm]
  have eb : takeB r b l = false := by simp [takeB, hm]
  have ef : frameL r b l = l := by simp [frameL, hm]
  go_enter Tryd.func7, Tryd.ntmps7
  go_wp2_with fail
  refine (may_b r b l _).mono ?_
  rintro e w1 ⟨rfl, hb1⟩
  rw [hm]
  have hB1 := hB0.below hb1 hB0.lt
  have hbel1 := hb0.trans (hb1.mono hb0.size)
  clear hb0 hb1 hB0 hm
  go_wp2_with (refine load41 rfl _ rfl w.heap.size rfl r b l hB1 ?_)
  refine (take_any r b l w1).mono ?_
  rintro e w2 ⟨rfl, hb2⟩
  rw [et, eb]
  have hB2 := hB1.below hb2 hB1.lt
  have hbel2 := hbel1.trans (hb2.mono hbel1.size)
  have EF := Lib.hid ef
  clear et eb ef hb2 hB1 hbel1
  have hnew := Blk.new w2 41 (capA r b l)
  have hB3 := hB2.alloc (.cells (capA r b l) 41)
  have hbel3 := hbel2.alloc hbel2.size (.cells (capA r b l) 41)
  go_wp2_with fail
  generalize hE1 : ([.int .i64 r, .int .i64 b, .int .i64 l] : List Value) = E1
  have hS : KeepS w [(w.heap.size, E1), (w2.heap.size, E1)] (w2.alloc (.cells (List.toArray E1) 41)) := by
    subst hE1
    refine ⟨fun x hx => ?_, hbel3⟩
    have hx' : x = (w.heap.size, [.int .i64 r, .int .i64 b, .int .i64 l]) ∨ x = (w2.heap.size, [.int .i64 r, .int .i64 b, .int .i64 l]) := by simpa using hx
    rcases hx' with rfl | rfl
    · exact Blk.rangeOf hB3
    · exact Blk.rangeOf hnew
  have c18 : ∀ W, KeepS w [(w.heap.size, E1), (w2.heap.size, E1)] W → Calls Tryd.prog 18 #[.agg (List.toArray E1)] W fun e W' => e = .returned (.agg (List.toArray E1)) ∧ KeepS w [(w.heap.size, E1), (w2.heap.size, E1)] W' := fun W h => by
    subst hE1
    refine (frame_any r b l W).mono ?_
    rintro e W' ⟨rfl, hb⟩
    exact ⟨by rw [EF.out], h.grown hb⟩
  have c14 : ∀ W, KeepS w [(w.heap.size, E1), (w2.heap.size, E1)] W → Calls Tryd.prog 14 #[] W fun e W' => e = .returned (.bool true) ∧ KeepS w [(w.heap.size, E1), (w2.heap.size, E1)] W' := fun W h => by
    refine (awake_any W (hg.below h.bel hpos)).mono ?_
    rintro e W' ⟨rfl, hb⟩
    exact ⟨rfl, h.grown hb⟩
  have e1 : ∀ W, (Op.equalIn 10000 41 (.agg (List.toArray E1)) (.agg (List.toArray E1))).run Tryd.prog W = .ok true W := fun W => by
    subst hE1
    exact eq41_same r b l W
  have hi1 : (Tryd.prog.info? 41).map (·.size) = some E1.length := by
    subst hE1
    exact info41
  clear hnew hB3 hB2 hbel2 hbel3 hE1 EF
  generalize w2.heap.size = gx at *
  refine wp_region_noPanic ?_
  refine wp_region_held_drew (S := KeepS w [(w.heap.size, E1), (gx, E1)]) (by kernel_rfl) hS.drew (fun hH => ?_)
  refine wpAnyH_take (i := 0) (oi := { dst := some 19, op := Op.move (Operand.tmp 4), type := 4, pos := "law.go:157", after := #[], guard := none }) (v := .bool false) rfl (by kernel_rfl) (by kernel_rfl) (by kernel_rfl) (fun _ _ _ h => h) (Or.inl ⟨by rfl, fun w hw => by go_simp⟩) hH ?_
  try simp only [Act.put, List.setIfInBounds_toArray, List.set_cons_zero, List.set_cons_succ]
  refine wpAnyH_take (i := 1) (oi := { dst := some 20, op := Op.unOp UnOp.not 4 (Operand.tmp 19), type := 4, pos := "law.go:157", after := #[{ on := 0, ground := Ground.data }], guard := none }) (v := .bool true) rfl (by kernel_rfl) (by kernel_rfl) (by kernel_rfl) (fun _ _ _ h => h) (Or.inl ⟨by rfl, fun w hw => by go_simp⟩) hH ?_
  try simp only [Act.put, List.setIfInBounds_toArray, List.set_cons_zero, List.set_cons_succ]
  refine wpAnyH_take (i := 2) (oi := { dst := some 21, op := Op.move (Operand.tmp 20), type := 4, pos := "law.go:157", after := #[{ on := 1, ground := Ground.data }], guard := none }) (v := .bool true) rfl (by kernel_rfl) (by kernel_rfl) (by kernel_rfl) (fun _ _ _ h => h) (Or.inl ⟨by rfl, fun w hw => by go_simp⟩) hH ?_
  try simp only [Act.put, List.setIfInBounds_toArray, List.set_cons_zero, List.set_cons_succ]
  refine wpAnyH_take (i := 3) (oi := { dst := some 22, op := Op.load 41 (Operand.tmp 3), type := 41, pos := "law.go:157", after := #[{ on := 2, ground := Ground.guard }], guard := some (2, true) }) (v := .agg (List.toArray E1)) rfl (by kernel_rfl) (by kernel_rfl) (by kernel_rfl) (fun _ _ _ h => h) (yieldsIf_load_mid (by rfl) _ _ rfl _ _ rfl E1 _ (fun _ h => h.all (gx, E1) (by simp)) Tryd.underlying41 rfl hi1) hH ?_
  try simp only [Act.put, List.setIfInBounds_toArray, List.set_cons_zero, List.set_cons_succ]
  refine wpAnyH_take (i := 4) (oi := { dst := some 23, op := Op.load 41 (Operand.tmp 1), type := 41, pos := "law.go:157", after := #[{ on := 2, ground := Ground.guard }], guard := some (2, true) }) (v := .agg (List.toArray E1)) rfl (by kernel_rfl) (by kernel_rfl) (by kernel_rfl) (fun _ _ _ h => h) (yieldsIf_load_mid (by rfl) _ _ rfl _ _ rfl E1 _ (fun _ h => h.all (w.heap.size, E1) (by simp)) Tryd.underlying41 rfl hi1) hH ?_
  try simp only [Act.put, List.setIfInBounds_toArray, List.set_cons_zero, List.set_cons_succ]
  refine wpAnyH_take (i := 5) (oi := { dst := some 24, op := Op.binOp BinOp.eql 41 (Operand.tmp 22) (Operand.tmp 23) 41, type := 4, pos := "law.go:157", after := #[{ on := 3, ground := Ground.data }, { on := 4, ground := Ground.data }, { on := 2, ground := Ground.guard }], guard := some (2, true) }) (v := .bool true) rfl (by kernel_rfl) (by kernel_rfl) (by kernel_rfl) (fun _ _ _ h => h) (Or.inl ⟨by rfl, fun w hw => by go_simp⟩) hH ?_
  try simp only [Act.put, List.setIfInBounds_toArray, List.set_cons_zero, List.set_cons_succ]
  refine wpAnyH_take (i := 6) (oi := { dst := some 25, op := Op.pick (Operand.tmp 21) (Operand.tmp 24) (Operand.const (Value.bool false)), type := 4, pos := "law.go:157", after := #[{ on := 2, ground := Ground.data }, { on := 5, ground := Ground.data }], guard := none }) (v := .bool true) rfl (by kernel_rfl) (by kernel_rfl) (by kernel_rfl) (fun _ _ _ h => h) (Or.inl ⟨by rfl, fun w hw => by go_simp⟩) hH ?_
  try simp only [Act.put, List.setIfInBounds_toArray, List.set_cons_zero, List.set_cons_succ]
  refine wpAnyH_take (i := 7) (oi := { dst := some 26, op := Op.move (Operand.tmp 25), type := 4, pos := "law.go:157", after := #[{ on := 6, ground := Ground.data }, { on := 2, ground := Ground.chain }], guard := none }) (v := .bool true) rfl (by kernel_rfl) (by kernel_rfl) (by kernel_rfl) (fun _ _ _ h => h) (Or.inl ⟨by rfl, fun w hw => by go_simp⟩) hH ?_
  try simp only [Act.put, List.setIfInBounds_toArray, List.set_cons_zero, List.set_cons_succ]
  refine wpAnyH_take (i := 8) (oi := { dst := some 27, op := Op.load 41 (Operand.tmp 1), type := 41, pos := "law.go:157", after := #[{ on := 7, ground := Ground.guard }], guard := some (7, true) }) (v := .agg (List.toArray E1)) rfl (by kernel_rfl) (by kernel_rfl) (by kernel_rfl) (fun _ _ _ h => h) (yieldsIf_load_mid (by rfl) _ _ rfl _ _ rfl E1 _ (fun _ h => h.all (w.heap.size, E1) (by simp)) Tryd.underlying41 rfl hi1) hH ?_
  try simp only [Act.put, List.setIfInBounds_toArray, List.set_cons_zero, List.set_cons_succ]
  refine wpAnyH_take (i := 10) (oi := { dst := some 29, op := Op.load 41 (Operand.tmp 1), type := 41, pos := "law.go:157", after := #[{ on := 7, ground := Ground.guard }], guard := some (7, true) }) (v := .agg (List.toArray E1)) rfl (by kernel_rfl) (by kernel_rfl) (by kernel_rfl) (fun _ _ _ h => h) (yieldsIf_load_mid (by rfl) _ _ rfl _ _ rfl E1 _ (fun _ h => h.all (w.heap.size, E1) (by simp)) Tryd.underlying41 rfl hi1) hH ?_
  try simp only [Act.put, List.setIfInBounds_toArray, List.set_cons_zero, List.set_cons_succ]
  refine wpAnyH_ready (rs := [9]) (by kernel_rfl) (by simp) ?_
  refine AllReadyH.cons (o := { dst := some 28, op := Op.call { callee := Callee.value (Operand.func 18), args := #[Operand.tmp 27], argTypes := #[41] }, type := 41, pos := "law.go:157", after := #[{ on := 8, ground := Ground.data }, { on := 7, ground := Ground.chain }, { on := 7, ground := Ground.guard }], guard := some (7, true) }) rfl (fun K hK => ?_) AllReadyH.nil
  go_simp
  refine (c18 _ hH).mono ?_
  rintro e W1 ⟨rfl, hC⟩
  go_wp2_with fail
  refine hK.out _ _ hC (fun hC2 => ?_)
  clear hK K hH hC2
  have hH := hC
  clear hC
  try simp only [Act.put, List.setIfInBounds_toArray, List.set_cons_zero, List.set_cons_succ]
  refine wpAnyH_take (i := 11) (oi := { dst := some 30, op := Op.binOp BinOp.eql 41 (Operand.tmp 28) (Operand.tmp 29) 41, type := 4, pos := "law.go:157", after := #[{ on := 9, ground := Ground.data }, { on := 10, ground := Ground.data }, { on := 7, ground := Ground.guard }], guard := some (7, true) }) (v := .bool true) rfl (by kernel_rfl) (by kernel_rfl) (by kernel_rfl) (fun _ _ _ h => h) (Or.inl ⟨by rfl, fun w hw => by go_simp⟩) hH ?_
  try simp only [Act.put, List.setIfInBounds_toArray, List.set_cons_zero, List.set_cons_succ]
  refine wpAnyH_take (i := 12) (oi := { dst := some 31, op := Op.pick (Operand.tmp 26) (Operand.tmp 30) (Operand.const (Value.bool false)), type := 4, pos := "law.go:157", after := #[{ on := 7, ground := Ground.data }, { on := 11, ground := Ground.data }], guard := none }) (v := .bool true) rfl (by kernel_rfl) (by kernel_rfl) (by kernel_rfl) (fun _ _ _ h => h) (Or.inl ⟨by rfl, fun w hw => by go_simp⟩) hH ?_
  try simp only [Act.put, List.setIfInBounds_toArray, List.set_cons_zero, List.set_cons_succ]
  refine wpAnyH_take (i := 13) (oi := { dst := some 32, op := Op.move (Operand.tmp 31), type := 4, pos := "law.go:157", after := #[{ on := 12, ground := Ground.data }, { on := 9, ground := Ground.chain }], guard := none }) (v := .bool true) rfl (by kernel_rfl) (by kernel_rfl) (by kernel_rfl) (fun _ _ _ h => h) (Or.inl ⟨by rfl, fun w hw => by go_simp⟩) hH ?_
  try simp only [Act.put, List.setIfInBounds_toArray, List.set_cons_zero, List.set_cons_succ]
  refine wpAnyH_ready (rs := [14]) (by kernel_rfl) (by simp) ?_
  refine AllReadyH.cons (o := { dst := some 33, op := Op.call { callee := Callee.value (Operand.func 14), args := #[], argTypes := #[] }, type := 4, pos := "law.go:157", after := #[{ on := 13, ground := Ground.chain }, { on := 13, ground := Ground.guard }], guard := some (13, true) }) rfl (fun K hK => ?_) AllReadyH.nil
  go_simp
  refine (c14 _ hH).mono ?_
  rintro e W2 ⟨rfl, hC⟩
  go_wp2_with fail
  refine hK.out _ _ hC (fun hC2 => ?_)
  clear hK K hH hC2
  have hH := hC
  clear hC
  try simp only [Act.put, List.setIfInBounds_toArray, List.set_cons_zero, List.set_cons_succ]
  refine wpAnyH_take (i := 15) (oi := { dst := some 34, op := Op.pick (Operand.tmp 32) (Operand.tmp 33) (Operand.const (Value.bool false)), type := 4, pos := "law.go:157", after := #[{ on := 13, ground := Ground.data }, { on := 14, ground := Ground.data }], guard := none }) (v := .bool true) rfl (by kernel_rfl) (by kernel_rfl) (by kernel_rfl) (fun _ _ _ h => h) (Or.inl ⟨by rfl, fun w hw => by go_simp⟩) hH ?_
  try simp only [Act.put, List.setIfInBounds_toArray, List.set_cons_zero, List.set_cons_succ]
  refine wpAnyH_take (i := 16) (oi := { dst := some 2, op := Op.assign (Operand.tmp 34), type := 4, pos := "law.go:157", after := #[{ on := 15, ground := Ground.data }, { on := 14, ground := Ground.chain }, { on := 0, ground := Ground.phase }, { on := 1, ground := Ground.phase }, { on := 2, ground := Ground.phase }, { on := 3, ground := Ground.phase }, { on := 4, ground := Ground.phase }, { on := 5, ground := Ground.phase }, { on := 6, ground := Ground.phase }, { on := 7, ground := Ground.phase }, { on := 8, ground := Ground.phase }, { on := 9, ground := Ground.phase }, { on := 10, ground := Ground.phase }, { on := 11, ground := Ground.phase }, { on := 12, ground := Ground.phase }, { on := 13, ground := Ground.phase }, { on := 14, ground := Ground.phase }, { on := 15, ground := Ground.phase }], guard := none }) (v := .bool true) rfl (by kernel_rfl) (by kernel_rfl) (by kernel_rfl) (fun _ _ _ h => h) (Or.inl ⟨by rfl, fun w hw => by go_simp⟩) hH ?_
  try simp only [Act.put, List.setIfInBounds_toArray, List.set_cons_zero, List.set_cons_succ]
  refine wpAnyH_done (by kernel_rfl) ?_ _
  refine NoPanic.normal ?_
  go_wp2
  go_ret
  exact ⟨rfl, hH.bel⟩
theorem filterAll_walk (r b l : Int) (w : World) (hg : ET w) : Calls Tryd.prog 7 #[capV r b l] w fun e w' => e = .returned (.bool true) ∧ Below w.heap.size w w' := by
  cases hm : mayB r b l with
  | true => exact filterAll_may r b l w hm hg
  | false => exact filterAll_mayNot r b l w hm hg
end Go.Proofs.YthappdipoofclaaDoor
