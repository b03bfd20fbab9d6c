/-
  THE WALK OF FilterCaps: where Begin gives a cap.
-/
import Derived.Test.YthappdipoofclaaDoorLawHp
namespace Go.Proofs.YthappdipoofclaaDoor
set_option linter.unusedSimpArgs false
set_option linter.unusedVariables false
open Go.RowKit
set_option maxRecDepth 100000 in
set_option maxHeartbeats 4000000 in
theorem filterCaps_yes (r b l : Int) (A : Option Addr) (n c : Nat) (fs : Nat → Bool) (rate burst : Int) (w : World) (hA : BRd w A n fs) (hn : n ≤ 9223372036854775807) (hm : mayB rate burst burst = true) (hg : ET w) :
    Calls Tryd.prog 5 #[.agg #[.int .i64 r, .int .i64 b, .int .i64 l, .slice A n c, .int .i64 rate, .int .i64 burst]] w fun e w' => e = .returned (.bool true) ∧ Below w.heap.size w w' := by
  have hpos := hg.lt
  have hB0 := Blk.new w 44 #[.int .i64 r, .int .i64 b, .int .i64 l, .slice A n c, .int .i64 rate, .int .i64 burst]
  have hb0 := (Below.refl w.heap.size w).alloc (Nat.le_refl _) (.cells #[.int .i64 r, .int .i64 b, .int .i64 l, .slice A n c, .int .i64 rate, .int .i64 burst] 44)
  go_enter Tryd.func5, Tryd.ntmps5
  go_wp2
  generalize w.alloc (.cells #[.int .i64 r, .int .i64 b, .int .i64 l, .slice A n c, .int .i64 rate, .int .i64 burst] 44) = w0 at *
  have q0 : w0.cell? ⟨w.heap.size, 0, none⟩ = some (.int .i64 r) := hB0.cell 0
  have q1 : w0.cell? ⟨w.heap.size, 1, none⟩ = some (.int .i64 b) := hB0.cell 1
  have q2 : w0.cell? ⟨w.heap.size, 2, none⟩ = some (.int .i64 l) := hB0.cell 2
  have q3 : w0.cell? ⟨w.heap.size, 3, none⟩ = some (.slice A n c) := hB0.cell 3
  have q4 : w0.cell? ⟨w.heap.size, 4, none⟩ = some (.int .i64 rate) := hB0.cell 4
  have q5 : w0.cell? ⟨w.heap.size, 5, none⟩ = some (.int .i64 burst) := hB0.cell 5
  have hlt0 : w.heap.size < w0.heap.size := hB0.lt
  have hB1 := hB0.alloc (.cells #[.int .i64 0, .int .i64 0, .int .i64 0] 41)
  have r0 := hB1.cell 0
  have r1 := hB1.cell 1
  have r2 := hB1.cell 2
  have r3 := hB1.cell 3
  have r4 := hB1.cell 4
  have r5 := hB1.cell 5
  simp only [List.getElem?_toArray, List.getElem?_cons_zero, List.getElem?_cons_succ] at r0 r1 r2 r3 r4 r5
  go_region
  clear q0 q1 q2 q3 q4 q5 r0 r1 r2 r3 r4 r5 hB0 hB1
  have hC1 : Blk (w0.alloc (.cells (capA r b l) 41)).drew w0.heap.size 41 (capA r b l) := (Blk.new w0 41 (capA r b l)).drew
  have hbel1 : Below w.heap.size w (w0.alloc (.cells (capA r b l) 41)).drew := (hb0.alloc hb0.size _).drew
  generalize hgc : w0.heap.size = gc at *
  clear hgc
  generalize (w0.alloc (.cells (capA r b l) 41)).drew = w1 at *
  clear hb0
  go_wp2_with fail
  refine (begin_yes rate burst w1 hm).mono ?_
  rintro e w2 ⟨rfl, hb2⟩
  have hC2 := hC1.below hb2 hC1.lt
  have hbel2 := hbel1.trans (hb2.mono hbel1.size)
  clear hC1 hbel1 hb2
  have hX3 := Blk.new w2 41 (capA rate burst burst)
  have hC3 := hC2.alloc (.cells (capA rate burst burst) 41)
  have hbel3 := hbel2.alloc hbel2.size (.cells (capA rate burst burst) 41)
  have hY4 := Blk.new (w2.alloc (.cells (capA rate burst burst) 41)) 41 (capA rate burst burst)
  have hX4 := hX3.alloc (.cells (capA rate burst burst) 41)
  have hC4 := hC3.alloc (.cells (capA rate burst burst) 41)
  have hbel4 := hbel3.alloc hbel3.size (.cells (capA rate burst burst) 41)
  rw [show (w2.alloc (.cells (capA rate burst burst) 41)).heap.size = w2.heap.size + 1 by simp] at hY4
  clear hC2 hbel2 hX3 hC3 hbel3
  go_wp2_with fail
  change Code.wp _ _ _ _ ((w2.alloc (.cells (capA rate burst burst) 41)).alloc (.cells (capA rate burst burst) 41))
  generalize (w2.alloc (.cells (capA rate burst burst) 41)).alloc (.cells (capA rate burst burst) 41) = w4 at *
  have hgx : w.heap.size ≤ gc := by omega
  generalize w2.heap.size = gx at *
  generalize hEc : ([.int .i64 r, .int .i64 b, .int .i64 l] : List Value) = Ec
  generalize hEx : ([.int .i64 rate, .int .i64 burst, .int .i64 burst] : List Value) = Ex
  generalize hEy : ([.int .i64 rate, .int .i64 burst, .int .i64 burst] : List Value) = Ey
  have hS : KeepS w4 [(gc, Ec), (gx, Ex), (gx + 1, Ey)] w4 := by
    subst hEc hEx hEy
    refine ⟨fun x hx => ?_, Below.refl _ _⟩
    simp only [List.mem_cons, List.not_mem_nil, or_false] at hx
    rcases hx with rfl | rfl | rfl
    · exact Blk.rangeOf hC4
    · exact Blk.rangeOf hX4
    · exact Blk.rangeOf hY4
  have c16y : ∀ W, KeepS w4 [(gc, Ec), (gx, Ex), (gx + 1, Ey)] W → Calls Tryd.prog 16 #[.agg (List.toArray Ey)] W fun e W' => e = .returned (.bool true) ∧ KeepS w4 [(gc, Ec), (gx, Ex), (gx + 1, Ey)] W' := fun W h => by
    subst hEy
    refine (refmay_b rate burst burst W).mono ?_
    rintro e W' ⟨rfl, hb⟩
    exact ⟨by rw [hm], h.grown hb⟩
  have c16c : ∀ W, KeepS w4 [(gc, Ec), (gx, Ex), (gx + 1, Ey)] W → Calls Tryd.prog 16 #[.agg (List.toArray Ec)] W fun e W' => e = .returned (.bool (mayB r b l)) ∧ KeepS w4 [(gc, Ec), (gx, Ex), (gx + 1, Ey)] W' := fun W h => by
    subst hEc
    refine (refmay_b r b l W).mono ?_
    rintro e W' ⟨rfl, hb⟩
    exact ⟨rfl, h.grown hb⟩
  have c17c : ∀ W, KeepS w4 [(gc, Ec), (gx, Ex), (gx + 1, Ey)] W → Calls Tryd.prog 17 #[.agg (List.toArray Ec)] W fun e W' => e = .returned (.bool (mayB r b l)) ∧ KeepS w4 [(gc, Ec), (gx, Ex), (gx + 1, Ey)] W' := fun W h => by
    subst hEc
    refine (may_b r b l W).mono ?_
    rintro e W' ⟨rfl, hb⟩
    exact ⟨rfl, h.grown hb⟩
  have e1 : ∀ W, (Op.equalIn 10000 41 (.agg (List.toArray Ex)) (.agg (List.toArray Ey))).run Tryd.prog W = .ok true W := fun W => by
    subst hEx
    subst hEy
    exact eq41_same rate burst burst W
  have hic : (Tryd.prog.info? 41).map (·.size) = some Ec.length := by subst hEc; exact info41
  have hix : (Tryd.prog.info? 41).map (·.size) = some Ex.length := by subst hEx; exact info41
  have hiy : (Tryd.prog.info? 41).map (·.size) = some Ey.length := by subst hEy; exact info41
  have HEc := Lib.hid hEc
  have HC4 := Lib.hid hC4
  have HB4 := Lib.hid hbel4
  clear hEx hEy hEc hC4 hX4 hY4 hbel4 hm
  generalize mayB r b l = mb at *
  refine wp_region_noPanic ?_
  refine wp_region_held_drew (S := KeepS w4 [(gc, Ec), (gx, Ex), (gx + 1, Ey)]) (by kernel_rfl) hS.drew (fun hH => ?_)
  refine wpAnyH_take (i := 0) (oi := { dst := some 34, op := Op.load 41 (Operand.tmp 9), type := 41, pos := "law.go:102", after := #[], guard := none }) (v := .agg (List.toArray Ey)) rfl (by kernel_rfl) (by kernel_rfl) (by kernel_rfl) (fun _ _ _ h => h) (yieldsIf_load_mid (by rfl) _ _ rfl _ _ rfl Ey _ (fun _ h => h.all (gx + 1, Ey) (by simp)) Tryd.underlying41 rfl hiy) hH ?_
  try simp only [Act.put, List.setIfInBounds_toArray, List.set_cons_zero, List.set_cons_succ]
  refine wpAnyH_take (i := 2) (oi := { dst := some 36, op := Op.move (Operand.tmp 8), type := 22, pos := "law.go:102", after := #[], guard := none }) (v := .int .i64 0) rfl (by kernel_rfl) (by kernel_rfl) (by kernel_rfl) (fun _ _ _ h => h) (Or.inl ⟨by rfl, fun w hw => by go_simp⟩) hH ?_
  try simp only [Act.put, List.setIfInBounds_toArray, List.set_cons_zero, List.set_cons_succ]
  refine wpAnyH_take (i := 3) (oi := { dst := some 37, op := Op.binOp BinOp.eql 22 (Operand.tmp 36) (Operand.const (Value.int IntKind.i64 0)) 22, type := 4, pos := "law.go:102", after := #[{ on := 2, ground := Ground.data }], guard := none }) (v := .bool true) rfl (by kernel_rfl) (by kernel_rfl) (by kernel_rfl) (fun _ _ _ h => h) (Or.inl ⟨by rfl, fun w hw => by go_simp⟩) hH ?_
  try simp only [Act.put, List.setIfInBounds_toArray, List.set_cons_zero, List.set_cons_succ]
  refine wpAnyH_ready (rs := [1]) (by kernel_rfl) (by simp) ?_
  refine AllReadyH.cons (o := { dst := some 35, op := Op.call { callee := Callee.value (Operand.func 16), args := #[Operand.tmp 34], argTypes := #[41] }, type := 4, pos := "law.go:102", after := #[{ on := 0, ground := Ground.data }], guard := none }) rfl (fun K hK => ?_) AllReadyH.nil
  go_simp
  refine (c16y _ hH).mono ?_
  rintro e W1 ⟨rfl, hC⟩
  go_wp2_with fail
  refine hK.out _ _ hC (fun hC2 => ?_)
  clear hK K hH hC2
  have hH := hC
  clear hC
  try simp only [Act.put, List.setIfInBounds_toArray, List.set_cons_zero, List.set_cons_succ]
  refine wpAnyH_take (i := 4) (oi := { dst := some 38, op := Op.binOp BinOp.neq 4 (Operand.tmp 35) (Operand.tmp 37) 4, type := 4, pos := "law.go:102", after := #[{ on := 1, ground := Ground.data }, { on := 3, ground := Ground.data }], guard := none }) (v := .bool false) rfl (by kernel_rfl) (by kernel_rfl) (by kernel_rfl) (fun _ _ _ h => h) (Or.inl ⟨by rfl, fun w hw => by go_simp⟩) hH ?_
  try simp only [Act.put, List.setIfInBounds_toArray, List.set_cons_zero, List.set_cons_succ]
  refine wpAnyH_take (i := 5) (oi := { dst := some 39, op := Op.move (Operand.tmp 38), type := 4, pos := "law.go:102", after := #[{ on := 4, ground := Ground.data }, { on := 1, ground := Ground.chain }], guard := none }) (v := .bool false) rfl (by kernel_rfl) (by kernel_rfl) (by kernel_rfl) (fun _ _ _ h => h) (Or.inl ⟨by rfl, fun w hw => by go_simp⟩) hH ?_
  try simp only [Act.put, List.setIfInBounds_toArray, List.set_cons_zero, List.set_cons_succ]
  refine wpAnyH_take (i := 6) (oi := { dst := some 40, op := Op.move (Operand.tmp 8), type := 22, pos := "law.go:102", after := #[{ on := 5, ground := Ground.guard }], guard := some (5, false) }) (v := .int .i64 0) rfl (by kernel_rfl) (by kernel_rfl) (by kernel_rfl) (fun _ _ _ h => h) (Or.inl ⟨by rfl, fun w hw => by go_simp⟩) hH ?_
  try simp only [Act.put, List.setIfInBounds_toArray, List.set_cons_zero, List.set_cons_succ]
  refine wpAnyH_take (i := 7) (oi := { dst := some 41, op := Op.binOp BinOp.eql 22 (Operand.tmp 40) (Operand.const (Value.int IntKind.i64 0)) 22, type := 4, pos := "law.go:102", after := #[{ on := 6, ground := Ground.data }, { on := 5, ground := Ground.guard }], guard := some (5, false) }) (v := .bool true) rfl (by kernel_rfl) (by kernel_rfl) (by kernel_rfl) (fun _ _ _ h => h) (Or.inl ⟨by rfl, fun w hw => by go_simp⟩) hH ?_
  try simp only [Act.put, List.setIfInBounds_toArray, List.set_cons_zero, List.set_cons_succ]
  refine wpAnyH_take (i := 8) (oi := { dst := some 42, op := Op.move (Operand.tmp 41), type := 4, pos := "law.go:102", after := #[{ on := 7, ground := Ground.data }, { on := 5, ground := Ground.chain }, { on := 5, ground := Ground.guard }], guard := some (5, false) }) (v := .bool true) rfl (by kernel_rfl) (by kernel_rfl) (by kernel_rfl) (fun _ _ _ h => h) (Or.inl ⟨by rfl, fun w hw => by go_simp⟩) hH ?_
  try simp only [Act.put, List.setIfInBounds_toArray, List.set_cons_zero, List.set_cons_succ]
  refine wpAnyH_take (i := 9) (oi := { dst := some 43, op := Op.load 41 (Operand.tmp 7), type := 41, pos := "law.go:102", after := #[{ on := 8, ground := Ground.guard }], guard := some (8, true) }) (v := .agg (List.toArray Ex)) rfl (by kernel_rfl) (by kernel_rfl) (by kernel_rfl) (fun _ _ _ h => h) (yieldsIf_load_mid (by rfl) _ _ rfl _ _ rfl Ex _ (fun _ h => h.all (gx, Ex) (by simp)) Tryd.underlying41 rfl hix) hH ?_
  try simp only [Act.put, List.setIfInBounds_toArray, List.set_cons_zero, List.set_cons_succ]
  refine wpAnyH_take (i := 10) (oi := { dst := some 44, op := Op.load 41 (Operand.tmp 9), type := 41, pos := "law.go:102", after := #[{ on := 8, ground := Ground.guard }], guard := some (8, true) }) (v := .agg (List.toArray Ey)) rfl (by kernel_rfl) (by kernel_rfl) (by kernel_rfl) (fun _ _ _ h => h) (yieldsIf_load_mid (by rfl) _ _ rfl _ _ rfl Ey _ (fun _ h => h.all (gx + 1, Ey) (by simp)) Tryd.underlying41 rfl hiy) hH ?_
  try simp only [Act.put, List.setIfInBounds_toArray, List.set_cons_zero, List.set_cons_succ]
  refine wpAnyH_take (i := 11) (oi := { dst := some 45, op := Op.binOp BinOp.neq 41 (Operand.tmp 43) (Operand.tmp 44) 41, type := 4, pos := "law.go:102", after := #[{ on := 9, ground := Ground.data }, { on := 10, ground := Ground.data }, { on := 8, ground := Ground.guard }], guard := some (8, true) }) (v := .bool false) rfl (by kernel_rfl) (by kernel_rfl) (by kernel_rfl) (fun _ _ _ h => h) (Or.inl ⟨by rfl, fun w hw => by go_simp⟩) hH ?_
  try simp only [Act.put, List.setIfInBounds_toArray, List.set_cons_zero, List.set_cons_succ]
  refine wpAnyH_take (i := 12) (oi := { dst := some 46, op := Op.pick (Operand.tmp 42) (Operand.tmp 45) (Operand.const (Value.bool false)), type := 4, pos := "law.go:102", after := #[{ on := 8, ground := Ground.data }, { on := 11, ground := Ground.data }, { on := 5, ground := Ground.guard }], guard := some (5, false) }) (v := .bool false) rfl (by kernel_rfl) (by kernel_rfl) (by kernel_rfl) (fun _ _ _ h => h) (Or.inl ⟨by rfl, fun w hw => by go_simp⟩) hH ?_
  try simp only [Act.put, List.setIfInBounds_toArray, List.set_cons_zero, List.set_cons_succ]
  refine wpAnyH_take (i := 13) (oi := { dst := some 47, op := Op.pick (Operand.tmp 39) (Operand.const (Value.bool true)) (Operand.tmp 46), type := 4, pos := "law.go:102", after := #[{ on := 5, ground := Ground.data }, { on := 12, ground := Ground.data }], guard := none }) (v := .bool false) rfl (by kernel_rfl) (by kernel_rfl) (by kernel_rfl) (fun _ _ _ h => h) (Or.inl ⟨by rfl, fun w hw => by go_simp⟩) hH ?_
  try simp only [Act.put, List.setIfInBounds_toArray, List.set_cons_zero, List.set_cons_succ]
  refine wpAnyH_take (i := 14) (oi := { dst := some 48, op := Op.move (Operand.tmp 47), type := 4, pos := "law.go:102", after := #[{ on := 13, ground := Ground.data }, { on := 8, ground := Ground.chain }], guard := none }) (v := .bool false) rfl (by kernel_rfl) (by kernel_rfl) (by kernel_rfl) (fun _ _ _ h => h) (Or.inl ⟨by rfl, fun w hw => by go_simp⟩) hH ?_
  try simp only [Act.put, List.setIfInBounds_toArray, List.set_cons_zero, List.set_cons_succ]
  refine wpAnyH_take (i := 15) (oi := { dst := some 49, op := Op.move (Operand.tmp 8), type := 22, pos := "law.go:102", after := #[{ on := 14, ground := Ground.guard }], guard := some (14, false) }) (v := .int .i64 0) rfl (by kernel_rfl) (by kernel_rfl) (by kernel_rfl) (fun _ _ _ h => h) (Or.inl ⟨by rfl, fun w hw => by go_simp⟩) hH ?_
  try simp only [Act.put, List.setIfInBounds_toArray, List.set_cons_zero, List.set_cons_succ]
  refine wpAnyH_take (i := 16) (oi := { dst := some 50, op := Op.binOp BinOp.neq 22 (Operand.tmp 49) (Operand.const (Value.int IntKind.i64 0)) 22, type := 4, pos := "law.go:102", after := #[{ on := 15, ground := Ground.data }, { on := 14, ground := Ground.guard }], guard := some (14, false) }) (v := .bool false) rfl (by kernel_rfl) (by kernel_rfl) (by kernel_rfl) (fun _ _ _ h => h) (Or.inl ⟨by rfl, fun w hw => by go_simp⟩) hH ?_
  try simp only [Act.put, List.setIfInBounds_toArray, List.set_cons_zero, List.set_cons_succ]
  refine wpAnyH_take (i := 17) (oi := { dst := some 51, op := Op.move (Operand.tmp 50), type := 4, pos := "law.go:102", after := #[{ on := 16, ground := Ground.data }, { on := 14, ground := Ground.chain }, { on := 14, ground := Ground.guard }], guard := some (14, false) }) (v := .bool false) rfl (by kernel_rfl) (by kernel_rfl) (by kernel_rfl) (fun _ _ _ h => h) (Or.inl ⟨by rfl, fun w hw => by go_simp⟩) hH ?_
  try simp only [Act.put, List.setIfInBounds_toArray, List.set_cons_zero, List.set_cons_succ]
  refine wpAnyH_take (i := 18) (oi := { dst := some 52, op := Op.move (Operand.tmp 8), type := 22, pos := "law.go:102", after := #[{ on := 17, ground := Ground.guard }], guard := some (17, true) }) (v := undef) rfl (by kernel_rfl) (by kernel_rfl) (by kernel_rfl) (fun _ _ _ h => h) (Or.inr ⟨by rfl, rfl⟩) hH ?_
  try simp only [Act.put, List.setIfInBounds_toArray, List.set_cons_zero, List.set_cons_succ]
  refine wpAnyH_take (i := 19) (oi := { dst := some 53, op := Op.binOp BinOp.neq 22 (Operand.tmp 52) (Operand.const (Value.int IntKind.i64 1)) 22, type := 4, pos := "law.go:102", after := #[{ on := 18, ground := Ground.data }, { on := 17, ground := Ground.guard }], guard := some (17, true) }) (v := undef) rfl (by kernel_rfl) (by kernel_rfl) (by kernel_rfl) (fun _ _ _ h => h) (Or.inr ⟨by rfl, rfl⟩) hH ?_
  try simp only [Act.put, List.setIfInBounds_toArray, List.set_cons_zero, List.set_cons_succ]
  refine wpAnyH_take (i := 20) (oi := { dst := some 54, op := Op.move (Operand.tmp 53), type := 4, pos := "law.go:102", after := #[{ on := 19, ground := Ground.data }, { on := 17, ground := Ground.chain }, { on := 17, ground := Ground.guard }], guard := some (17, true) }) (v := undef) rfl (by kernel_rfl) (by kernel_rfl) (by kernel_rfl) (fun _ _ _ h => h) (Or.inr ⟨by rfl, rfl⟩) hH ?_
  try simp only [Act.put, List.setIfInBounds_toArray, List.set_cons_zero, List.set_cons_succ]
  refine wpAnyH_take (i := 21) (oi := { dst := some 55, op := Op.load 41 (Operand.tmp 7), type := 41, pos := "law.go:102", after := #[{ on := 20, ground := Ground.guard }], guard := some (20, false) }) (v := undef) rfl (by kernel_rfl) (by kernel_rfl) (by kernel_rfl) (fun _ _ _ h => h) (Or.inr ⟨by rfl, rfl⟩) hH ?_
  try simp only [Act.put, List.setIfInBounds_toArray, List.set_cons_zero, List.set_cons_succ]
  refine wpAnyH_take (i := 22) (oi := { dst := some 56, op := Op.build 41 #[], type := 41, pos := "law.go:102", after := #[{ on := 20, ground := Ground.guard }], guard := some (20, false) }) (v := undef) rfl (by kernel_rfl) (by kernel_rfl) (by kernel_rfl) (fun _ _ _ h => h) (Or.inr ⟨by rfl, rfl⟩) hH ?_
  try simp only [Act.put, List.setIfInBounds_toArray, List.set_cons_zero, List.set_cons_succ]
  refine wpAnyH_take (i := 23) (oi := { dst := some 57, op := Op.binOp BinOp.neq 41 (Operand.tmp 55) (Operand.tmp 56) 41, type := 4, pos := "law.go:102", after := #[{ on := 21, ground := Ground.data }, { on := 22, ground := Ground.data }, { on := 20, ground := Ground.guard }], guard := some (20, false) }) (v := undef) rfl (by kernel_rfl) (by kernel_rfl) (by kernel_rfl) (fun _ _ _ h => h) (Or.inr ⟨by rfl, rfl⟩) hH ?_
  try simp only [Act.put, List.setIfInBounds_toArray, List.set_cons_zero, List.set_cons_succ]
  refine wpAnyH_take (i := 24) (oi := { dst := some 58, op := Op.pick (Operand.tmp 54) (Operand.const (Value.bool true)) (Operand.tmp 57), type := 4, pos := "law.go:102", after := #[{ on := 20, ground := Ground.data }, { on := 23, ground := Ground.data }, { on := 17, ground := Ground.guard }], guard := some (17, true) }) (v := undef) rfl (by kernel_rfl) (by kernel_rfl) (by kernel_rfl) (fun _ _ _ h => h) (Or.inr ⟨by rfl, rfl⟩) hH ?_
  try simp only [Act.put, List.setIfInBounds_toArray, List.set_cons_zero, List.set_cons_succ]
  refine wpAnyH_take (i := 25) (oi := { dst := some 59, op := Op.pick (Operand.tmp 51) (Operand.tmp 58) (Operand.const (Value.bool false)), type := 4, pos := "law.go:102", after := #[{ on := 17, ground := Ground.data }, { on := 24, ground := Ground.data }, { on := 14, ground := Ground.guard }], guard := some (14, false) }) (v := .bool false) rfl (by kernel_rfl) (by kernel_rfl) (by kernel_rfl) (fun _ _ _ h => h) (Or.inl ⟨by rfl, fun w hw => by go_simp⟩) hH ?_
  try simp only [Act.put, List.setIfInBounds_toArray, List.set_cons_zero, List.set_cons_succ]
  refine wpAnyH_take (i := 26) (oi := { dst := some 60, op := Op.pick (Operand.tmp 48) (Operand.const (Value.bool true)) (Operand.tmp 59), type := 4, pos := "law.go:102", after := #[{ on := 14, ground := Ground.data }, { on := 25, ground := Ground.data }], guard := none }) (v := .bool false) rfl (by kernel_rfl) (by kernel_rfl) (by kernel_rfl) (fun _ _ _ h => h) (Or.inl ⟨by rfl, fun w hw => by go_simp⟩) hH ?_
  try simp only [Act.put, List.setIfInBounds_toArray, List.set_cons_zero, List.set_cons_succ]
  refine wpAnyH_take (i := 27) (oi := { dst := some 61, op := Op.move (Operand.tmp 60), type := 4, pos := "law.go:102", after := #[{ on := 26, ground := Ground.data }, { on := 20, ground := Ground.chain }], guard := none }) (v := .bool false) rfl (by kernel_rfl) (by kernel_rfl) (by kernel_rfl) (fun _ _ _ h => h) (Or.inl ⟨by rfl, fun w hw => by go_simp⟩) hH ?_
  try simp only [Act.put, List.setIfInBounds_toArray, List.set_cons_zero, List.set_cons_succ]
  refine wpAnyH_take (i := 28) (oi := { dst := some 62, op := Op.load 41 (Operand.tmp 3), type := 41, pos := "law.go:102", after := #[{ on := 27, ground := Ground.guard }], guard := some (27, false) }) (v := .agg (List.toArray Ec)) rfl (by kernel_rfl) (by kernel_rfl) (by kernel_rfl) (fun _ _ _ h => h) (yieldsIf_load_mid (by rfl) _ _ rfl _ _ rfl Ec _ (fun _ h => h.all (gc, Ec) (by simp)) Tryd.underlying41 rfl hic) hH ?_
  try simp only [Act.put, List.setIfInBounds_toArray, List.set_cons_zero, List.set_cons_succ]
  refine wpAnyH_take (i := 30) (oi := { dst := some 64, op := Op.load 41 (Operand.tmp 3), type := 41, pos := "law.go:102", after := #[{ on := 27, ground := Ground.guard }], guard := some (27, false) }) (v := .agg (List.toArray Ec)) rfl (by kernel_rfl) (by kernel_rfl) (by kernel_rfl) (fun _ _ _ h => h) (yieldsIf_load_mid (by rfl) _ _ rfl _ _ rfl Ec _ (fun _ h => h.all (gc, Ec) (by simp)) Tryd.underlying41 rfl hic) hH ?_
  try simp only [Act.put, List.setIfInBounds_toArray, List.set_cons_zero, List.set_cons_succ]
  refine wpAnyH_ready (rs := [29]) (by kernel_rfl) (by simp) ?_
  refine AllReadyH.cons (o := { dst := some 63, op := Op.call { callee := Callee.value (Operand.func 17), args := #[Operand.tmp 62], argTypes := #[41] }, type := 4, pos := "law.go:102", after := #[{ on := 28, ground := Ground.data }, { on := 27, ground := Ground.chain }, { on := 27, ground := Ground.guard }], guard := some (27, false) }) rfl (fun K hK => ?_) AllReadyH.nil
  go_simp
  refine (c17c _ hH).mono ?_
  rintro e W2 ⟨rfl, hC⟩
  go_wp2_with fail
  refine hK.out _ _ hC (fun hC2 => ?_)
  clear hK K hH hC2
  have hH := hC
  clear hC
  try simp only [Act.put, List.setIfInBounds_toArray, List.set_cons_zero, List.set_cons_succ]
  refine wpAnyH_ready (rs := [31]) (by kernel_rfl) (by simp) ?_
  refine AllReadyH.cons (o := { dst := some 65, op := Op.call { callee := Callee.value (Operand.func 16), args := #[Operand.tmp 64], argTypes := #[41] }, type := 4, pos := "law.go:102", after := #[{ on := 30, ground := Ground.data }, { on := 29, ground := Ground.chain }, { on := 27, ground := Ground.guard }], guard := some (27, false) }) rfl (fun K hK => ?_) AllReadyH.nil
  go_simp
  refine (c16c _ hH).mono ?_
  rintro e W3 ⟨rfl, hC⟩
  go_wp2_with fail
  refine hK.out _ _ hC (fun hC2 => ?_)
  clear hK K hH hC2
  have hH := hC
  clear hC
  try simp only [Act.put, List.setIfInBounds_toArray, List.set_cons_zero, List.set_cons_succ]
  refine wpAnyH_take (i := 32) (oi := { dst := some 66, op := Op.binOp BinOp.neq 4 (Operand.tmp 63) (Operand.tmp 65) 4, type := 4, pos := "law.go:102", after := #[{ on := 29, ground := Ground.data }, { on := 31, ground := Ground.data }, { on := 27, ground := Ground.guard }], guard := some (27, false) }) (v := .bool false) rfl (by kernel_rfl) (by kernel_rfl) (by kernel_rfl) (fun _ _ _ h => h) (Or.inl ⟨by rfl, fun w hw => by go_simp⟩) hH ?_
  try simp only [Act.put, List.setIfInBounds_toArray, List.set_cons_zero, List.set_cons_succ]
  refine wpAnyH_take (i := 33) (oi := { dst := some 67, op := Op.pick (Operand.tmp 61) (Operand.const (Value.bool true)) (Operand.tmp 66), type := 4, pos := "law.go:102", after := #[{ on := 27, ground := Ground.data }, { on := 32, ground := Ground.data }], guard := none }) (v := .bool false) rfl (by kernel_rfl) (by kernel_rfl) (by kernel_rfl) (fun _ _ _ h => h) (Or.inl ⟨by rfl, fun w hw => by go_simp⟩) hH ?_
  try simp only [Act.put, List.setIfInBounds_toArray, List.set_cons_zero, List.set_cons_succ]
  refine wpAnyH_done (by kernel_rfl) ?_ _
  refine NoPanic.normal ?_
  have hC5 : Blk W3 gc 41 (capA r b l) := HC4.out.below hH.bel HC4.out.lt
  have hbel5 : Below w.heap.size w W3 := HB4.out.trans (hH.bel.mono HB4.out.size)
  clear hS c16y c16c c17c e1 hic hix hiy hH HC4 HB4
  have hM6 := Blk.new W3 41 (capA r b l)
  have hC6 := hC5.alloc (.cells (capA r b l) 41)
  have hbel6 := hbel5.alloc hbel5.size (.cells (capA r b l) 41)
  have hT : TwoS w (W3.alloc (.cells (capA r b l) 41)) gc W3.heap.size r b l := ⟨hC6, hM6, hbel6, hgx, hbel5.size, by have := hC5.lt; omega⟩
  clear hM6 hC6 hbel6 hbel5
  go_wp2_with (refine load41 rfl (.tmp 3) rfl gc rfl r b l hC5 ?_)
  clear hC5
  generalize W3.alloc (.cells (capA r b l) 41) = w6 at *
  generalize W3.heap.size = gm at *
  have HA := Lib.hid hA
  clear hA
  go_loopw [11] (fun i wr => ∃ (k : Nat) (x : Int), k ≤ n ∧ k ≤ 200 ∧ i = .int .i64 (k : Int) ∧ TwoS w wr gc gm r b x) (fun i _ => n - (intOf i).toNat)
  case atStart => exact ⟨0, l, by omega, by omega, rfl, hT⟩
  case round =>
    obtain ⟨k, x, hkn, hk2, rfl, hI⟩ := hrel
    clear hT
    by_cases hgo : k < n ∧ k < 200
    · obtain ⟨hlt, hl2⟩ := hgo
      obtain ⟨ad, rfl, hcell⟩ := HA.out.cells k hlt
      have hcw : wr.cell? (ad.add k) = some (.bool (fs k)) := (hI.bel.cell (block_lt_of_cell hcell)).trans hcell
      clear hcell
      have hc := hI.c
      have hmB := hI.m
      have hbel := hI.bel
      have hlc := hI.lec
      have hlm := hI.lem
      have hne := hI.ne
      clear hI
      cases hb : fs k with
      | true =>
        rw [hb] at hcw
        obtain ⟨x', hx'⟩ : ∃ x', frameL r b x = x' := ⟨_, rfl⟩
        have HX := Lib.hid hx'
        clear hx' hb
        go_wp2_with fail
        refine wp_region_any (by kernel_rfl) ?_
        change wpAny _ _ _ _ _ _ _ wr.drew
        replace hc := hc.drew
        replace hmB := hmB.drew
        replace hbel := hbel.drew
        clear hcw
        refine wpAny_ready (rs := [0, 2]) (by kernel_rfl) (by simp) ?_
        refine (AllReady.cons (o := { dst := some 83, op := Op.load 41 (Operand.tmp 3), type := 41, pos := "law.go:108", after := #[], guard := none }) rfl (fun K hK => (step_load_cells (o := { dst := some 83, op := Op.load 41 (Operand.tmp 3), type := 41, pos := "law.go:108", after := #[], guard := none }) rfl 41 (.tmp 3) rfl ⟨gc, 0, none⟩ rfl (capA r b x) _ Tryd.underlying41 rfl info41 (capCells hc) (hK _ _ ?_))) (AllReady.cons (o := { dst := some 85, op := Op.load 41 (Operand.tmp 10), type := 41, pos := "law.go:108", after := #[], guard := none }) rfl (fun K hK => (step_load_cells (o := { dst := some 85, op := Op.load 41 (Operand.tmp 10), type := 41, pos := "law.go:108", after := #[], guard := none }) rfl 41 (.tmp 10) rfl ⟨gm, 0, none⟩ rfl (capA r b x) _ Tryd.underlying41 rfl info41 (capCells hmB) (hK _ _ ?_))) AllReady.nil))
        · try simp only [Act.put, List.setIfInBounds_toArray, List.set_cons_zero, List.set_cons_succ]
          refine wpAny_ready (rs := [1, 2]) (by kernel_rfl) (by simp) ?_
          refine (AllReady.cons (o := { dst := some 84, op := Op.call { callee := Callee.value (Operand.func 18), args := #[Operand.tmp 83], argTypes := #[41] }, type := 41, pos := "law.go:108", after := #[{ on := 0, ground := Ground.data }], guard := none }) rfl (fun K hK => ?_) (AllReady.cons (o := { dst := some 85, op := Op.load 41 (Operand.tmp 10), type := 41, pos := "law.go:108", after := #[], guard := none }) rfl (fun K hK => (step_load_cells (o := { dst := some 85, op := Op.load 41 (Operand.tmp 10), type := 41, pos := "law.go:108", after := #[], guard := none }) rfl 41 (.tmp 10) rfl ⟨gm, 0, none⟩ rfl (capA r b x) _ Tryd.underlying41 rfl info41 (capCells hmB) (hK _ _ ?_))) AllReady.nil))
          · go_simp
            refine (frame_any r b x _).mono ?_
            rintro e W9 ⟨rfl, hbX⟩
            rw [HX.out]
            replace hc := hc.below hbX hc.lt
            replace hmB := hmB.below hbX hmB.lt
            replace hbel := hbel.trans (hbX.mono hbel.size)
            clear hbX
            go_wp2_with fail
            clear hK K
            try simp only [Act.put, List.setIfInBounds_toArray, List.set_cons_zero, List.set_cons_succ]
            refine wpAny_ready (rs := [2]) (by kernel_rfl) (by simp) ?_
            refine (AllReady.cons (o := { dst := some 85, op := Op.load 41 (Operand.tmp 10), type := 41, pos := "law.go:108", after := #[], guard := none }) rfl (fun K hK => (step_load_cells (o := { dst := some 85, op := Op.load 41 (Operand.tmp 10), type := 41, pos := "law.go:108", after := #[], guard := none }) rfl 41 (.tmp 10) rfl ⟨gm, 0, none⟩ rfl (capA r b x) _ Tryd.underlying41 rfl info41 (capCells hmB) (hK _ _ ?_))) AllReady.nil)
            try simp only [Act.put, List.setIfInBounds_toArray, List.set_cons_zero, List.set_cons_succ]
            refine wpAny_ready (rs := [3]) (by kernel_rfl) (by simp) ?_
            refine (AllReady.cons (o := { dst := some 86, op := Op.call { callee := Callee.value (Operand.func 19), args := #[Operand.tmp 85], argTypes := #[41] }, type := 41, pos := "law.go:108", after := #[{ on := 2, ground := Ground.data }, { on := 1, ground := Ground.chain }], guard := none }) rfl (fun K hK => ?_) AllReady.nil)
            go_simp
            refine (refframe_any r b x _).mono ?_
            rintro e W9 ⟨rfl, hbX⟩
            rw [HX.out]
            replace hc := hc.below hbX hc.lt
            replace hmB := hmB.below hbX hmB.lt
            replace hbel := hbel.trans (hbX.mono hbel.size)
            clear hbX
            go_wp2_with fail
            clear hK K
            try simp only [Act.put, List.setIfInBounds_toArray, List.set_cons_zero, List.set_cons_succ]
            refine wpAny_ready (rs := [4]) (by kernel_rfl) (by simp) ?_
            refine (AllReady.cons (o := { dst := none, op := Op.store 41 (Operand.tmp 3) (Operand.tmp 84), type := 0, pos := "law.go:108", after := #[{ on := 1, ground := Ground.data }, { on := 3, ground := Ground.chain }, { on := 0, ground := Ground.phase }, { on := 1, ground := Ground.phase }, { on := 2, ground := Ground.textOnly Departure.lateStores }, { on := 3, ground := Ground.textOnly Departure.lateStoresUnsure }], guard := none }) rfl (fun K hK => (step_store_at (o := { dst := none, op := Op.store 41 (Operand.tmp 3) (Operand.tmp 84), type := 0, pos := "law.go:108", after := #[{ on := 1, ground := Ground.data }, { on := 3, ground := Ground.chain }, { on := 0, ground := Ground.phase }, { on := 1, ground := Ground.phase }, { on := 2, ground := Ground.textOnly Departure.lateStores }, { on := 3, ground := Ground.textOnly Departure.lateStoresUnsure }], guard := none }) rfl 41 (.tmp 3) (.tmp 84) rfl gc 0 rfl (capA r b x') rfl 41 (capA r b x) hc info41 (by simp) (by simp [Value.oneCell']) (hK _ _ ?_))) AllReady.nil)
            rw [capRow]
            replace hmB := hmB.setRow_far hne.symm (capA r b x')
            replace hbel := below_setRow hbel hlc (capA r b x')
            replace hc := hc.setRow (capA r b x')
            try simp only [Act.put, List.setIfInBounds_toArray, List.set_cons_zero, List.set_cons_succ]
            refine wpAny_ready (rs := [5]) (by kernel_rfl) (by simp) ?_
            refine (AllReady.cons (o := { dst := none, op := Op.store 41 (Operand.tmp 10) (Operand.tmp 86), type := 0, pos := "law.go:108", after := #[{ on := 3, ground := Ground.data }, { on := 4, ground := Ground.chain }, { on := 0, ground := Ground.phase }, { on := 1, ground := Ground.phase }, { on := 2, ground := Ground.phase }, { on := 3, ground := Ground.phase }, { on := 4, ground := Ground.phase }], guard := none }) rfl (fun K hK => (step_store_at (o := { dst := none, op := Op.store 41 (Operand.tmp 10) (Operand.tmp 86), type := 0, pos := "law.go:108", after := #[{ on := 3, ground := Ground.data }, { on := 4, ground := Ground.chain }, { on := 0, ground := Ground.phase }, { on := 1, ground := Ground.phase }, { on := 2, ground := Ground.phase }, { on := 3, ground := Ground.phase }, { on := 4, ground := Ground.phase }], guard := none }) rfl 41 (.tmp 10) (.tmp 86) rfl gm 0 rfl (capA r b x') rfl 41 (capA r b x) hmB info41 (by simp) (by simp [Value.oneCell']) (hK _ _ ?_))) AllReady.nil)
            rw [capRow]
            replace hc := hc.setRow_far hne (capA r b x')
            replace hbel := below_setRow hbel hlm (capA r b x')
            replace hmB := hmB.setRow (capA r b x')
            try simp only [Act.put, List.setIfInBounds_toArray, List.set_cons_zero, List.set_cons_succ]
            refine wpAny_done (by kernel_rfl) ?_ _
            have e2 := fun W => eq41_same r b x' W
            go_wp2_with (first
              | (refine load41 rfl (.tmp 3) rfl gc rfl r b x' hc ?_)
              | (refine load41 rfl (.tmp 10) rfl gm rfl r b x' hmB ?_))
            go_roundw
            case rel => exact ⟨k + 1, x', by omega, by omega, by go_num, hc, hmB, hbel, hlc, hlm, hne⟩
            case measure => simp [intOf]; omega
          · try simp only [Act.put, List.setIfInBounds_toArray, List.set_cons_zero, List.set_cons_succ]
            refine wpAny_ready (rs := [1]) (by kernel_rfl) (by simp) ?_
            refine (AllReady.cons (o := { dst := some 84, op := Op.call { callee := Callee.value (Operand.func 18), args := #[Operand.tmp 83], argTypes := #[41] }, type := 41, pos := "law.go:108", after := #[{ on := 0, ground := Ground.data }], guard := none }) rfl (fun K hK => ?_) AllReady.nil)
            go_simp
            refine (frame_any r b x _).mono ?_
            rintro e W9 ⟨rfl, hbX⟩
            rw [HX.out]
            replace hc := hc.below hbX hc.lt
            replace hmB := hmB.below hbX hmB.lt
            replace hbel := hbel.trans (hbX.mono hbel.size)
            clear hbX
            go_wp2_with fail
            clear hK K
            try simp only [Act.put, List.setIfInBounds_toArray, List.set_cons_zero, List.set_cons_succ]
            refine wpAny_ready (rs := [3]) (by kernel_rfl) (by simp) ?_
            refine (AllReady.cons (o := { dst := some 86, op := Op.call { callee := Callee.value (Operand.func 19), args := #[Operand.tmp 85], argTypes := #[41] }, type := 41, pos := "law.go:108", after := #[{ on := 2, ground := Ground.data }, { on := 1, ground := Ground.chain }], guard := none }) rfl (fun K hK => ?_) AllReady.nil)
            go_simp
            refine (refframe_any r b x _).mono ?_
            rintro e W9 ⟨rfl, hbX⟩
            rw [HX.out]
            replace hc := hc.below hbX hc.lt
            replace hmB := hmB.below hbX hmB.lt
            replace hbel := hbel.trans (hbX.mono hbel.size)
            clear hbX
            go_wp2_with fail
            clear hK K
            try simp only [Act.put, List.setIfInBounds_toArray, List.set_cons_zero, List.set_cons_succ]
            refine wpAny_ready (rs := [4]) (by kernel_rfl) (by simp) ?_
            refine (AllReady.cons (o := { dst := none, op := Op.store 41 (Operand.tmp 3) (Operand.tmp 84), type := 0, pos := "law.go:108", after := #[{ on := 1, ground := Ground.data }, { on := 3, ground := Ground.chain }, { on := 0, ground := Ground.phase }, { on := 1, ground := Ground.phase }, { on := 2, ground := Ground.textOnly Departure.lateStores }, { on := 3, ground := Ground.textOnly Departure.lateStoresUnsure }], guard := none }) rfl (fun K hK => (step_store_at (o := { dst := none, op := Op.store 41 (Operand.tmp 3) (Operand.tmp 84), type := 0, pos := "law.go:108", after := #[{ on := 1, ground := Ground.data }, { on := 3, ground := Ground.chain }, { on := 0, ground := Ground.phase }, { on := 1, ground := Ground.phase }, { on := 2, ground := Ground.textOnly Departure.lateStores }, { on := 3, ground := Ground.textOnly Departure.lateStoresUnsure }], guard := none }) rfl 41 (.tmp 3) (.tmp 84) rfl gc 0 rfl (capA r b x') rfl 41 (capA r b x) hc info41 (by simp) (by simp [Value.oneCell']) (hK _ _ ?_))) AllReady.nil)
            rw [capRow]
            replace hmB := hmB.setRow_far hne.symm (capA r b x')
            replace hbel := below_setRow hbel hlc (capA r b x')
            replace hc := hc.setRow (capA r b x')
            try simp only [Act.put, List.setIfInBounds_toArray, List.set_cons_zero, List.set_cons_succ]
            refine wpAny_ready (rs := [5]) (by kernel_rfl) (by simp) ?_
            refine (AllReady.cons (o := { dst := none, op := Op.store 41 (Operand.tmp 10) (Operand.tmp 86), type := 0, pos := "law.go:108", after := #[{ on := 3, ground := Ground.data }, { on := 4, ground := Ground.chain }, { on := 0, ground := Ground.phase }, { on := 1, ground := Ground.phase }, { on := 2, ground := Ground.phase }, { on := 3, ground := Ground.phase }, { on := 4, ground := Ground.phase }], guard := none }) rfl (fun K hK => (step_store_at (o := { dst := none, op := Op.store 41 (Operand.tmp 10) (Operand.tmp 86), type := 0, pos := "law.go:108", after := #[{ on := 3, ground := Ground.data }, { on := 4, ground := Ground.chain }, { on := 0, ground := Ground.phase }, { on := 1, ground := Ground.phase }, { on := 2, ground := Ground.phase }, { on := 3, ground := Ground.phase }, { on := 4, ground := Ground.phase }], guard := none }) rfl 41 (.tmp 10) (.tmp 86) rfl gm 0 rfl (capA r b x') rfl 41 (capA r b x) hmB info41 (by simp) (by simp [Value.oneCell']) (hK _ _ ?_))) AllReady.nil)
            rw [capRow]
            replace hc := hc.setRow_far hne (capA r b x')
            replace hbel := below_setRow hbel hlm (capA r b x')
            replace hmB := hmB.setRow (capA r b x')
            try simp only [Act.put, List.setIfInBounds_toArray, List.set_cons_zero, List.set_cons_succ]
            refine wpAny_done (by kernel_rfl) ?_ _
            have e2 := fun W => eq41_same r b x' W
            go_wp2_with (first
              | (refine load41 rfl (.tmp 3) rfl gc rfl r b x' hc ?_)
              | (refine load41 rfl (.tmp 10) rfl gm rfl r b x' hmB ?_))
            go_roundw
            case rel => exact ⟨k + 1, x', by omega, by omega, by go_num, hc, hmB, hbel, hlc, hlm, hne⟩
            case measure => simp [intOf]; omega
        · try simp only [Act.put, List.setIfInBounds_toArray, List.set_cons_zero, List.set_cons_succ]
          refine wpAny_ready (rs := [0]) (by kernel_rfl) (by simp) ?_
          refine (AllReady.cons (o := { dst := some 83, op := Op.load 41 (Operand.tmp 3), type := 41, pos := "law.go:108", after := #[], guard := none }) rfl (fun K hK => (step_load_cells (o := { dst := some 83, op := Op.load 41 (Operand.tmp 3), type := 41, pos := "law.go:108", after := #[], guard := none }) rfl 41 (.tmp 3) rfl ⟨gc, 0, none⟩ rfl (capA r b x) _ Tryd.underlying41 rfl info41 (capCells hc) (hK _ _ ?_))) AllReady.nil)
          try simp only [Act.put, List.setIfInBounds_toArray, List.set_cons_zero, List.set_cons_succ]
          refine wpAny_ready (rs := [1]) (by kernel_rfl) (by simp) ?_
          refine (AllReady.cons (o := { dst := some 84, op := Op.call { callee := Callee.value (Operand.func 18), args := #[Operand.tmp 83], argTypes := #[41] }, type := 41, pos := "law.go:108", after := #[{ on := 0, ground := Ground.data }], guard := none }) rfl (fun K hK => ?_) AllReady.nil)
          go_simp
          refine (frame_any r b x _).mono ?_
          rintro e W9 ⟨rfl, hbX⟩
          rw [HX.out]
          replace hc := hc.below hbX hc.lt
          replace hmB := hmB.below hbX hmB.lt
          replace hbel := hbel.trans (hbX.mono hbel.size)
          clear hbX
          go_wp2_with fail
          clear hK K
          try simp only [Act.put, List.setIfInBounds_toArray, List.set_cons_zero, List.set_cons_succ]
          refine wpAny_ready (rs := [3]) (by kernel_rfl) (by simp) ?_
          refine (AllReady.cons (o := { dst := some 86, op := Op.call { callee := Callee.value (Operand.func 19), args := #[Operand.tmp 85], argTypes := #[41] }, type := 41, pos := "law.go:108", after := #[{ on := 2, ground := Ground.data }, { on := 1, ground := Ground.chain }], guard := none }) rfl (fun K hK => ?_) AllReady.nil)
          go_simp
          refine (refframe_any r b x _).mono ?_
          rintro e W9 ⟨rfl, hbX⟩
          rw [HX.out]
          replace hc := hc.below hbX hc.lt
          replace hmB := hmB.below hbX hmB.lt
          replace hbel := hbel.trans (hbX.mono hbel.size)
          clear hbX
          go_wp2_with fail
          clear hK K
          try simp only [Act.put, List.setIfInBounds_toArray, List.set_cons_zero, List.set_cons_succ]
          refine wpAny_ready (rs := [4]) (by kernel_rfl) (by simp) ?_
          refine (AllReady.cons (o := { dst := none, op := Op.store 41 (Operand.tmp 3) (Operand.tmp 84), type := 0, pos := "law.go:108", after := #[{ on := 1, ground := Ground.data }, { on := 3, ground := Ground.chain }, { on := 0, ground := Ground.phase }, { on := 1, ground := Ground.phase }, { on := 2, ground := Ground.textOnly Departure.lateStores }, { on := 3, ground := Ground.textOnly Departure.lateStoresUnsure }], guard := none }) rfl (fun K hK => (step_store_at (o := { dst := none, op := Op.store 41 (Operand.tmp 3) (Operand.tmp 84), type := 0, pos := "law.go:108", after := #[{ on := 1, ground := Ground.data }, { on := 3, ground := Ground.chain }, { on := 0, ground := Ground.phase }, { on := 1, ground := Ground.phase }, { on := 2, ground := Ground.textOnly Departure.lateStores }, { on := 3, ground := Ground.textOnly Departure.lateStoresUnsure }], guard := none }) rfl 41 (.tmp 3) (.tmp 84) rfl gc 0 rfl (capA r b x') rfl 41 (capA r b x) hc info41 (by simp) (by simp [Value.oneCell']) (hK _ _ ?_))) AllReady.nil)
          rw [capRow]
          replace hmB := hmB.setRow_far hne.symm (capA r b x')
          replace hbel := below_setRow hbel hlc (capA r b x')
          replace hc := hc.setRow (capA r b x')
          try simp only [Act.put, List.setIfInBounds_toArray, List.set_cons_zero, List.set_cons_succ]
          refine wpAny_ready (rs := [5]) (by kernel_rfl) (by simp) ?_
          refine (AllReady.cons (o := { dst := none, op := Op.store 41 (Operand.tmp 10) (Operand.tmp 86), type := 0, pos := "law.go:108", after := #[{ on := 3, ground := Ground.data }, { on := 4, ground := Ground.chain }, { on := 0, ground := Ground.phase }, { on := 1, ground := Ground.phase }, { on := 2, ground := Ground.phase }, { on := 3, ground := Ground.phase }, { on := 4, ground := Ground.phase }], guard := none }) rfl (fun K hK => (step_store_at (o := { dst := none, op := Op.store 41 (Operand.tmp 10) (Operand.tmp 86), type := 0, pos := "law.go:108", after := #[{ on := 3, ground := Ground.data }, { on := 4, ground := Ground.chain }, { on := 0, ground := Ground.phase }, { on := 1, ground := Ground.phase }, { on := 2, ground := Ground.phase }, { on := 3, ground := Ground.phase }, { on := 4, ground := Ground.phase }], guard := none }) rfl 41 (.tmp 10) (.tmp 86) rfl gm 0 rfl (capA r b x') rfl 41 (capA r b x) hmB info41 (by simp) (by simp [Value.oneCell']) (hK _ _ ?_))) AllReady.nil)
          rw [capRow]
          replace hc := hc.setRow_far hne (capA r b x')
          replace hbel := below_setRow hbel hlm (capA r b x')
          replace hmB := hmB.setRow (capA r b x')
          try simp only [Act.put, List.setIfInBounds_toArray, List.set_cons_zero, List.set_cons_succ]
          refine wpAny_done (by kernel_rfl) ?_ _
          have e2 := fun W => eq41_same r b x' W
          go_wp2_with (first
            | (refine load41 rfl (.tmp 3) rfl gc rfl r b x' hc ?_)
            | (refine load41 rfl (.tmp 10) rfl gm rfl r b x' hmB ?_))
          go_roundw
          case rel => exact ⟨k + 1, x', by omega, by omega, by go_num, hc, hmB, hbel, hlc, hlm, hne⟩
          case measure => simp [intOf]; omega
      | false =>
        rw [hb] at hcw
        obtain ⟨x', hx'⟩ : ∃ x', takeL r b x = x' := ⟨_, rfl⟩
        obtain ⟨q, hq⟩ : ∃ q, takeB r b x = q := ⟨_, rfl⟩
        have HX := Lib.hid hx'
        have HQ := Lib.hid hq
        clear hx' hq hb
        go_wp2_with (refine load41 rfl (.tmp 3) rfl gc rfl r b x hc ?_)
        refine (take_any r b x wr).mono ?_
        rintro e W7 ⟨rfl, hb7⟩
        rw [HX.out, HQ.out]
        have hA8 := Blk.new W7 41 (capA r b x')
        replace hc := (hc.below hb7 hc.lt).alloc (.cells (capA r b x') 41)
        replace hmB := (hmB.below hb7 hmB.lt).alloc (.cells (capA r b x') 41)
        replace hbel := hbel.trans (hb7.mono hbel.size)
        replace hbel := hbel.alloc hbel.size (.cells (capA r b x') 41)
        clear hcw hb7
        go_wp2_with (refine load41 rfl (.tmp 10) rfl gm rfl r b x hmB ?_)
        change Calls _ _ _ (W7.alloc (.cells (capA r b x') 41)) _
        generalize W7.alloc (.cells (capA r b x') 41) = W8 at *
        generalize W7.heap.size = ga at *
        refine (reftake_any r b x W8).mono ?_
        rintro e W9 ⟨rfl, hb9⟩
        rw [HX.out, HQ.out]
        have hne2 : W9.heap.size ≠ gc := by
          have := hb9.size
          have := hc.lt
          omega
        have hN := Blk.new W9 41 (capA r b x')
        replace hA8 := (hA8.below hb9 hA8.lt).alloc (.cells (capA r b x') 41)
        replace hc := (hc.below hb9 hc.lt).alloc (.cells (capA r b x') 41)
        replace hmB := (hmB.below hb9 hmB.lt).alloc (.cells (capA r b x') 41)
        replace hbel := hbel.trans (hb9.mono hbel.size)
        replace hbel := hbel.alloc hbel.size (.cells (capA r b x') 41)
        clear hb9
        have e2 := fun W => eq41_same r b x' W
        go_wp2_with (first
          | (refine load41 rfl (.tmp 12) rfl ga rfl r b x' hA8 ?_)
          | (refine load41 rfl (.tmp 14) rfl W9.heap.size rfl r b x' hN ?_))
        clear e2
        change Code.wp _ _ _ _ (W9.alloc (.cells (capA r b x') 41))
        generalize W9.alloc (.cells (capA r b x') 41) = W10 at *
        generalize W9.heap.size = gb at *
        refine wp_region_any (by kernel_rfl) ?_
        change wpAny _ _ _ _ _ _ _ W10.drew
        replace hc := hc.drew
        replace hmB := hmB.drew
        replace hA8 := hA8.drew
        replace hN := hN.drew
        replace hbel := hbel.drew
        refine wpAny_ready (rs := [0, 1]) (by kernel_rfl) (by simp) ?_
        refine (AllReady.cons (o := { dst := some 108, op := Op.load 41 (Operand.tmp 12), type := 41, pos := "law.go:119", after := #[], guard := none }) rfl (fun K hK => (step_load_cells (o := { dst := some 108, op := Op.load 41 (Operand.tmp 12), type := 41, pos := "law.go:119", after := #[], guard := none }) rfl 41 (.tmp 12) rfl ⟨ga, 0, none⟩ rfl (capA r b x') _ Tryd.underlying41 rfl info41 (capCells hA8) (hK _ _ ?_))) (AllReady.cons (o := { dst := some 109, op := Op.load 41 (Operand.tmp 14), type := 41, pos := "law.go:119", after := #[{ on := 2, ground := Ground.gcOnly Departure.lateStores }], guard := none }) rfl (fun K hK => (step_load_cells (o := { dst := some 109, op := Op.load 41 (Operand.tmp 14), type := 41, pos := "law.go:119", after := #[{ on := 2, ground := Ground.gcOnly Departure.lateStores }], guard := none }) rfl 41 (.tmp 14) rfl ⟨gb, 0, none⟩ rfl (capA r b x') _ Tryd.underlying41 rfl info41 (capCells hN) (hK _ _ ?_))) AllReady.nil))
        · try simp only [Act.put, List.setIfInBounds_toArray, List.set_cons_zero, List.set_cons_succ]
          refine wpAny_ready (rs := [1, 2]) (by kernel_rfl) (by simp) ?_
          refine (AllReady.cons (o := { dst := some 109, op := Op.load 41 (Operand.tmp 14), type := 41, pos := "law.go:119", after := #[{ on := 2, ground := Ground.gcOnly Departure.lateStores }], guard := none }) rfl (fun K hK => (step_load_cells (o := { dst := some 109, op := Op.load 41 (Operand.tmp 14), type := 41, pos := "law.go:119", after := #[{ on := 2, ground := Ground.gcOnly Departure.lateStores }], guard := none }) rfl 41 (.tmp 14) rfl ⟨gb, 0, none⟩ rfl (capA r b x') _ Tryd.underlying41 rfl info41 (capCells hN) (hK _ _ ?_))) (AllReady.cons (o := { dst := none, op := Op.store 41 (Operand.tmp 3) (Operand.tmp 108), type := 0, pos := "law.go:119", after := #[{ on := 0, ground := Ground.data }, { on := 0, ground := Ground.phase }, { on := 1, ground := Ground.textOnly Departure.lateStores }], guard := none }) rfl (fun K hK => (step_store_at (o := { dst := none, op := Op.store 41 (Operand.tmp 3) (Operand.tmp 108), type := 0, pos := "law.go:119", after := #[{ on := 0, ground := Ground.data }, { on := 0, ground := Ground.phase }, { on := 1, ground := Ground.textOnly Departure.lateStores }], guard := none }) rfl 41 (.tmp 3) (.tmp 108) rfl gc 0 rfl (capA r b x') rfl 41 (capA r b x) hc info41 (by simp) (by simp [Value.oneCell']) (hK _ _ ?_))) AllReady.nil))
          · try simp only [Act.put, List.setIfInBounds_toArray, List.set_cons_zero, List.set_cons_succ]
            refine wpAny_ready (rs := [2]) (by kernel_rfl) (by simp) ?_
            refine (AllReady.cons (o := { dst := none, op := Op.store 41 (Operand.tmp 3) (Operand.tmp 108), type := 0, pos := "law.go:119", after := #[{ on := 0, ground := Ground.data }, { on := 0, ground := Ground.phase }, { on := 1, ground := Ground.textOnly Departure.lateStores }], guard := none }) rfl (fun K hK => (step_store_at (o := { dst := none, op := Op.store 41 (Operand.tmp 3) (Operand.tmp 108), type := 0, pos := "law.go:119", after := #[{ on := 0, ground := Ground.data }, { on := 0, ground := Ground.phase }, { on := 1, ground := Ground.textOnly Departure.lateStores }], guard := none }) rfl 41 (.tmp 3) (.tmp 108) rfl gc 0 rfl (capA r b x') rfl 41 (capA r b x) hc info41 (by simp) (by simp [Value.oneCell']) (hK _ _ ?_))) AllReady.nil)
            rw [capRow]
            replace hmB := hmB.setRow_far hne.symm (capA r b x')
            replace hbel := below_setRow hbel hlc (capA r b x')
            replace hc := hc.setRow (capA r b x')
            replace hN := hN.setRow_far hne2 (capA r b x')
            try simp only [Act.put, List.setIfInBounds_toArray, List.set_cons_zero, List.set_cons_succ]
            refine wpAny_ready (rs := [3]) (by kernel_rfl) (by simp) ?_
            refine (AllReady.cons (o := { dst := none, op := Op.store 41 (Operand.tmp 10) (Operand.tmp 109), type := 0, pos := "law.go:119", after := #[{ on := 1, ground := Ground.data }, { on := 2, ground := Ground.chain }, { on := 0, ground := Ground.phase }, { on := 1, ground := Ground.phase }, { on := 2, ground := Ground.phase }], guard := none }) rfl (fun K hK => (step_store_at (o := { dst := none, op := Op.store 41 (Operand.tmp 10) (Operand.tmp 109), type := 0, pos := "law.go:119", after := #[{ on := 1, ground := Ground.data }, { on := 2, ground := Ground.chain }, { on := 0, ground := Ground.phase }, { on := 1, ground := Ground.phase }, { on := 2, ground := Ground.phase }], guard := none }) rfl 41 (.tmp 10) (.tmp 109) rfl gm 0 rfl (capA r b x') rfl 41 (capA r b x) hmB info41 (by simp) (by simp [Value.oneCell']) (hK _ _ ?_))) AllReady.nil)
            rw [capRow]
            replace hc := hc.setRow_far hne (capA r b x')
            replace hbel := below_setRow hbel hlm (capA r b x')
            replace hmB := hmB.setRow (capA r b x')
            try simp only [Act.put, List.setIfInBounds_toArray, List.set_cons_zero, List.set_cons_succ]
            refine wpAny_done (by kernel_rfl) ?_ _
            go_wp2
            go_roundw
            case rel => exact ⟨k + 1, x', by omega, by omega, by go_num, hc, hmB, hbel, hlc, hlm, hne⟩
            case measure => simp [intOf]; omega
          · rw [capRow]
            replace hmB := hmB.setRow_far hne.symm (capA r b x')
            replace hbel := below_setRow hbel hlc (capA r b x')
            replace hc := hc.setRow (capA r b x')
            replace hN := hN.setRow_far hne2 (capA r b x')
            try simp only [Act.put, List.setIfInBounds_toArray, List.set_cons_zero, List.set_cons_succ]
            refine wpAny_ready (rs := [1]) (by kernel_rfl) (by simp) ?_
            refine (AllReady.cons (o := { dst := some 109, op := Op.load 41 (Operand.tmp 14), type := 41, pos := "law.go:119", after := #[{ on := 2, ground := Ground.gcOnly Departure.lateStores }], guard := none }) rfl (fun K hK => (step_load_cells (o := { dst := some 109, op := Op.load 41 (Operand.tmp 14), type := 41, pos := "law.go:119", after := #[{ on := 2, ground := Ground.gcOnly Departure.lateStores }], guard := none }) rfl 41 (.tmp 14) rfl ⟨gb, 0, none⟩ rfl (capA r b x') _ Tryd.underlying41 rfl info41 (capCells hN) (hK _ _ ?_))) AllReady.nil)
            try simp only [Act.put, List.setIfInBounds_toArray, List.set_cons_zero, List.set_cons_succ]
            refine wpAny_ready (rs := [3]) (by kernel_rfl) (by simp) ?_
            refine (AllReady.cons (o := { dst := none, op := Op.store 41 (Operand.tmp 10) (Operand.tmp 109), type := 0, pos := "law.go:119", after := #[{ on := 1, ground := Ground.data }, { on := 2, ground := Ground.chain }, { on := 0, ground := Ground.phase }, { on := 1, ground := Ground.phase }, { on := 2, ground := Ground.phase }], guard := none }) rfl (fun K hK => (step_store_at (o := { dst := none, op := Op.store 41 (Operand.tmp 10) (Operand.tmp 109), type := 0, pos := "law.go:119", after := #[{ on := 1, ground := Ground.data }, { on := 2, ground := Ground.chain }, { on := 0, ground := Ground.phase }, { on := 1, ground := Ground.phase }, { on := 2, ground := Ground.phase }], guard := none }) rfl 41 (.tmp 10) (.tmp 109) rfl gm 0 rfl (capA r b x') rfl 41 (capA r b x) hmB info41 (by simp) (by simp [Value.oneCell']) (hK _ _ ?_))) AllReady.nil)
            rw [capRow]
            replace hc := hc.setRow_far hne (capA r b x')
            replace hbel := below_setRow hbel hlm (capA r b x')
            replace hmB := hmB.setRow (capA r b x')
            try simp only [Act.put, List.setIfInBounds_toArray, List.set_cons_zero, List.set_cons_succ]
            refine wpAny_done (by kernel_rfl) ?_ _
            go_wp2
            go_roundw
            case rel => exact ⟨k + 1, x', by omega, by omega, by go_num, hc, hmB, hbel, hlc, hlm, hne⟩
            case measure => simp [intOf]; omega
        · try simp only [Act.put, List.setIfInBounds_toArray, List.set_cons_zero, List.set_cons_succ]
          refine wpAny_ready (rs := [0]) (by kernel_rfl) (by simp) ?_
          refine (AllReady.cons (o := { dst := some 108, op := Op.load 41 (Operand.tmp 12), type := 41, pos := "law.go:119", after := #[], guard := none }) rfl (fun K hK => (step_load_cells (o := { dst := some 108, op := Op.load 41 (Operand.tmp 12), type := 41, pos := "law.go:119", after := #[], guard := none }) rfl 41 (.tmp 12) rfl ⟨ga, 0, none⟩ rfl (capA r b x') _ Tryd.underlying41 rfl info41 (capCells hA8) (hK _ _ ?_))) AllReady.nil)
          try simp only [Act.put, List.setIfInBounds_toArray, List.set_cons_zero, List.set_cons_succ]
          refine wpAny_ready (rs := [2]) (by kernel_rfl) (by simp) ?_
          refine (AllReady.cons (o := { dst := none, op := Op.store 41 (Operand.tmp 3) (Operand.tmp 108), type := 0, pos := "law.go:119", after := #[{ on := 0, ground := Ground.data }, { on := 0, ground := Ground.phase }, { on := 1, ground := Ground.textOnly Departure.lateStores }], guard := none }) rfl (fun K hK => (step_store_at (o := { dst := none, op := Op.store 41 (Operand.tmp 3) (Operand.tmp 108), type := 0, pos := "law.go:119", after := #[{ on := 0, ground := Ground.data }, { on := 0, ground := Ground.phase }, { on := 1, ground := Ground.textOnly Departure.lateStores }], guard := none }) rfl 41 (.tmp 3) (.tmp 108) rfl gc 0 rfl (capA r b x') rfl 41 (capA r b x) hc info41 (by simp) (by simp [Value.oneCell']) (hK _ _ ?_))) AllReady.nil)
          rw [capRow]
          replace hmB := hmB.setRow_far hne.symm (capA r b x')
          replace hbel := below_setRow hbel hlc (capA r b x')
          replace hc := hc.setRow (capA r b x')
          replace hN := hN.setRow_far hne2 (capA r b x')
          try simp only [Act.put, List.setIfInBounds_toArray, List.set_cons_zero, List.set_cons_succ]
          refine wpAny_ready (rs := [3]) (by kernel_rfl) (by simp) ?_
          refine (AllReady.cons (o := { dst := none, op := Op.store 41 (Operand.tmp 10) (Operand.tmp 109), type := 0, pos := "law.go:119", after := #[{ on := 1, ground := Ground.data }, { on := 2, ground := Ground.chain }, { on := 0, ground := Ground.phase }, { on := 1, ground := Ground.phase }, { on := 2, ground := Ground.phase }], guard := none }) rfl (fun K hK => (step_store_at (o := { dst := none, op := Op.store 41 (Operand.tmp 10) (Operand.tmp 109), type := 0, pos := "law.go:119", after := #[{ on := 1, ground := Ground.data }, { on := 2, ground := Ground.chain }, { on := 0, ground := Ground.phase }, { on := 1, ground := Ground.phase }, { on := 2, ground := Ground.phase }], guard := none }) rfl 41 (.tmp 10) (.tmp 109) rfl gm 0 rfl (capA r b x') rfl 41 (capA r b x) hmB info41 (by simp) (by simp [Value.oneCell']) (hK _ _ ?_))) AllReady.nil)
          rw [capRow]
          replace hc := hc.setRow_far hne (capA r b x')
          replace hbel := below_setRow hbel hlm (capA r b x')
          replace hmB := hmB.setRow (capA r b x')
          try simp only [Act.put, List.setIfInBounds_toArray, List.set_cons_zero, List.set_cons_succ]
          refine wpAny_done (by kernel_rfl) ?_ _
          go_wp2
          go_roundw
          case rel => exact ⟨k + 1, x', by omega, by omega, by go_num, hc, hmB, hbel, hlc, hlm, hne⟩
          case measure => simp [intOf]; omega
    · have hd : (decide ((k : Int) < (n : Int)) && decide ((k : Int) < 200)) = false := by
        rw [Bool.and_eq_false_iff, decide_eq_false_iff_not, decide_eq_false_iff_not]
        omega
      have hbelI := hI.bel
      clear hI
      by_cases h1 : k < n
      · have h2 : ¬ k < 200 := fun h => hgo ⟨h1, h⟩
        go_wp2_with fail
        refine (awake_any wr (hg.below hbelI hpos)).mono ?_
        rintro e W8 ⟨rfl, hb8⟩
        go_wp2_with fail
        go_ret
        exact ⟨rfl, hbelI.trans (hb8.mono hbelI.size)⟩
      · go_wp2_with fail
        refine (awake_any wr (hg.below hbelI hpos)).mono ?_
        rintro e W8 ⟨rfl, hb8⟩
        go_wp2_with fail
        go_ret
        exact ⟨rfl, hbelI.trans (hb8.mono hbelI.size)⟩
end Go.Proofs.YthappdipoofclaaDoor
