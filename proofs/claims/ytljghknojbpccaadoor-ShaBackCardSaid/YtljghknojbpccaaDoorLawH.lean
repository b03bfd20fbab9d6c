/-
  THE WALK OF ShaHexes.
-/
import Derived.Test.YtljghknojbpccaaDoorRefH
import Derived.Test.YtljghknojbpccaaDoorLawB
namespace Go.Proofs.YtljghknojbpccaaDoor
set_option linter.unusedSimpArgs false
set_option linter.unusedVariables false
open Go.RowKit

/-- what holds in the last region: three sums -/
structure HexS (w : World) (a b c : Nat) (E0 E1 E2 : List Value) (W : World) : Prop where
  r0 : W.rangeAt a 0 E0
  r1 : W.rangeAt b 0 E1
  r2 : W.rangeAt c 0 E2
  bel : Below w.heap.size w W
theorem HexS.drew {w W : World} {a b c : Nat} {E0 E1 E2 : List Value} (h : HexS w a b c E0 E1 E2 W) : HexS w a b c E0 E1 E2 W.drew :=
  ⟨(World.rangeAt_drew _ _ _ _).2 h.r0, (World.rangeAt_drew _ _ _ _).2 h.r1, (World.rangeAt_drew _ _ _ _).2 h.r2, h.bel.drew⟩
theorem HexS.grown {w W W' : World} {a b c : Nat} {E0 E1 E2 : List Value} (h : HexS w a b c E0 E1 E2 W) (hb : Below W.heap.size W W') : HexS w a b c E0 E1 E2 W' :=
  ⟨range_below h.r0 hb, range_below h.r1 hb, range_below h.r2 hb, h.bel.trans (hb.mono h.bel.size)⟩

set_option maxRecDepth 100000 in
set_option maxHeartbeats 4000000 in
theorem shaHexes_walk (l : List UInt8) (hl : l.length = 32) (s : ByteArray) (w : World) (ht : Tables w) :
    Calls Tryd.prog 6 #[.agg (bytesV l), .string s] w fun e w' => e = .returned (.bool true) ∧ Below w.heap.size w w' := by
  have hsz := ht.size
  have hls : (bytesV l).size = 32 := by rw [bytesV_size]; exact hl
  have hb0 := (Below.refl w.heap.size w).alloc (Nat.le_refl _) (.cells (bytesV l) 24)
  have hr0 := Blk.new w 24 (bytesV l)
  go_enter Tryd.func6, Tryd.ntmps6
  go_wp2_with fail
  generalize w.alloc (.cells (bytesV l) 24) = w0 at *
  refine (unhex_any s w0).mono ?_
  rintro e w1 ⟨X, k, rfl, hb1, hu1⟩
  have hX := hu1.len
  have hXs : (bytesV X).size = 32 := by rw [bytesV_size]; exact hX
  have hbel1 := hb0.trans (hb1.mono hb0.size)
  have hr1 := hr0.below hb1 hr0.lt
  go_wp2_with (refine store24_new w1 _ rfl (.tmp 5) (.tmp 12) rfl rfl (bytesV X) rfl hXs (bytesV_one _) (by rfl) ?_; intro w2 hrA hb12)
  have hbel2 := hbel1.trans (hb12.mono hbel1.size)
  have hr2 := hr1.below hb12 hr1.lt
  refine (refunhex_any s w2).mono ?_
  rintro e w3 ⟨Y, j, b, rfl, hb3, hu2, hbk⟩
  obtain ⟨rfl, rfl⟩ := hu2.same hu1
  have hcode := hu1.code
  clear hu1 hu2
  have hbel3 := hbel2.trans (hb3.mono hbel2.size)
  have hr3 := hr2.below hb3 hr2.lt
  have hrA3 := hrA.below hb3 hrA.lt
  go_wp2_with (refine store24_new w3 _ rfl (.tmp 7) (.tmp 17) rfl rfl (bytesV X) rfl hXs (bytesV_one _) (by rfl) ?_; intro w4 hrB hb34)
  have hS : HexS w w.heap.size w1.heap.size w3.heap.size (l.map U8) (X.map U8) (X.map U8) w4 :=
    ⟨(hr3.below hb34 hr3.lt).range, (hrA3.below hb34 hrA3.lt).range, hrB.range, hbel3.trans (hb34.mono hbel3.size)⟩
  obtain ⟨H, hH⟩ : ∃ H, (⟨(Sp.hexL l).toArray⟩ : ByteArray) = H := ⟨_, rfl⟩
  replace hH := Lib.hid hH
  have e1 : ∀ W, (Op.equalIn 10000 24 (.agg (List.map U8 X).toArray) (.agg (List.map U8 X).toArray)).run Tryd.prog W = .ok true W := fun W => by
    have := eq24 X X hX hX W
    rwa [beq_self_eq_true] at this
  have hi0 : (Tryd.prog.info? 24).map (·.size) = some (List.map U8 l).length := by rw [List.length_map, hl]; exact info24
  have hi1 : (Tryd.prog.info? 24).map (·.size) = some (List.map U8 X).length := by rw [List.length_map, hX]; exact info24
  have c19 : ∀ W, HexS w w.heap.size w1.heap.size w3.heap.size (l.map U8) (X.map U8) (X.map U8) W → Calls Tryd.prog 19 #[.agg (List.map U8 l).toArray] W fun e W' => e = .returned (.string H) ∧ HexS w w.heap.size w1.heap.size w3.heap.size (l.map U8) (X.map U8) (X.map U8) W' :=
    fun W h => (hex_any l hl W).mono fun e W' ⟨he, hb⟩ => ⟨by rw [he, hH.out], h.grown hb⟩
  have c20 : ∀ W, HexS w w.heap.size w1.heap.size w3.heap.size (l.map U8) (X.map U8) (X.map U8) W → Calls Tryd.prog 20 #[.agg (List.map U8 l).toArray] W fun e W' => e = .returned (.string H) ∧ HexS w w.heap.size w1.heap.size w3.heap.size (l.map U8) (X.map U8) (X.map U8) W' :=
    fun W h => (refhex_any l hl W).mono fun e W' ⟨he, hb⟩ => ⟨by rw [he, hH.out], h.grown hb⟩
  have c11 : ∀ W, HexS w w.heap.size w1.heap.size w3.heap.size (l.map U8) (X.map U8) (X.map U8) W → Calls Tryd.prog 11 #[] W fun e W' => e = .returned (.bool true) ∧ HexS w w.heap.size w1.heap.size w3.heap.size (l.map U8) (X.map U8) (X.map U8) W' :=
    fun W h => (awake_any W (ht.below h.bel hsz)).mono fun e W' ⟨he, hb⟩ => ⟨he, h.grown hb⟩
  clear hb34 hrB hrA3 hr3 hbel3 hb3 hrA hr2 hbel2 hb12 hr1 hbel1 hb1 hr0 hb0 hXs hls hbk
  generalize hE0 : List.map U8 l = E0 at *
  generalize hE1 : List.map U8 X = E1 at *
  have hbl : bytesV l = E0.toArray := by rw [← hE0]; rfl
  have hbX : bytesV X = E1.toArray := by rw [← hE1]; rfl
  rw [hbl, hbX]
  clear hbl hbX hE0 hE1
  rcases hcode with rfl | rfl
  · rw [decide_eq_true (rfl : (0 : Int) = 0)]
    refine wp_region_noPanic ?_
    refine wp_region_held_drew (S := HexS w w.heap.size w1.heap.size w3.heap.size E0 E1 E1) (by kernel_rfl) hS.drew (fun hH => ?_)
    refine wpAnyH_take (i := 0) (oi := { dst := some 19, op := Op.load 24 (Operand.tmp 2), type := 24, pos := "law.go:34", after := #[], guard := none }) (v := .agg (List.toArray E0)) rfl (by kernel_rfl) (by kernel_rfl) (by kernel_rfl) (fun _ _ _ h => h) (yieldsIf_load_mid (by rfl) _ _ rfl _ _ rfl E0 _ (fun _ h => h.r0) Tryd.underlying24 rfl hi0) hH ?_
    try simp only [Act.put, List.setIfInBounds_toArray, List.set_cons_zero, List.set_cons_succ]
    refine wpAnyH_take (i := 2) (oi := { dst := some 21, op := Op.load 24 (Operand.tmp 2), type := 24, pos := "law.go:34", after := #[], guard := none }) (v := .agg (List.toArray E0)) rfl (by kernel_rfl) (by kernel_rfl) (by kernel_rfl) (fun _ _ _ h => h) (yieldsIf_load_mid (by rfl) _ _ rfl _ _ rfl E0 _ (fun _ h => h.r0) Tryd.underlying24 rfl hi0) hH ?_
    try simp only [Act.put, List.setIfInBounds_toArray, List.set_cons_zero, List.set_cons_succ]
    refine wpAnyH_ready (rs := [1]) (by kernel_rfl) (by simp) ?_
    refine AllReadyH.cons (o := { dst := some 20, op := Op.call { callee := Callee.value (Operand.func 19), args := #[Operand.tmp 19], argTypes := #[24] }, type := 9, pos := "law.go:34", after := #[{ on := 0, ground := Ground.data }], guard := none }) rfl (fun K hK => ?_) AllReadyH.nil
    go_simp
    refine (c19 _ hH).mono ?_
    rintro e W1 ⟨rfl, hC⟩
    go_wp2_with fail
    refine hK.out _ _ hC (fun hC2 => ?_)
    clear hK K hH hC2
    have hH := hC
    clear hC
    try simp only [Act.put, List.setIfInBounds_toArray, List.set_cons_zero, List.set_cons_succ]
    refine wpAnyH_ready (rs := [3]) (by kernel_rfl) (by simp) ?_
    refine AllReadyH.cons (o := { dst := some 22, op := Op.call { callee := Callee.value (Operand.func 20), args := #[Operand.tmp 21], argTypes := #[24] }, type := 9, pos := "law.go:34", after := #[{ on := 2, ground := Ground.data }, { on := 1, ground := Ground.chain }], guard := none }) rfl (fun K hK => ?_) AllReadyH.nil
    go_simp
    refine (c20 _ hH).mono ?_
    rintro e W2 ⟨rfl, hC⟩
    go_wp2_with fail
    refine hK.out _ _ hC (fun hC2 => ?_)
    clear hK K hH hC2
    have hH := hC
    clear hC
    try simp only [Act.put, List.setIfInBounds_toArray, List.set_cons_zero, List.set_cons_succ]
    refine wpAnyH_take (i := 4) (oi := { dst := some 23, op := Op.binOp BinOp.eql 9 (Operand.tmp 20) (Operand.tmp 22) 9, type := 4, pos := "law.go:34", after := #[{ on := 1, ground := Ground.data }, { on := 3, ground := Ground.data }], guard := none }) (v := .bool true) rfl (by kernel_rfl) (by kernel_rfl) (by kernel_rfl) (fun _ _ _ h => h) (Or.inl ⟨by rfl, fun w hw => by go_simp⟩) hH ?_
    try simp only [Act.put, List.setIfInBounds_toArray, List.set_cons_zero, List.set_cons_succ]
    refine wpAnyH_take (i := 5) (oi := { dst := some 24, op := Op.move (Operand.tmp 23), type := 4, pos := "law.go:34", after := #[{ on := 4, ground := Ground.data }, { on := 3, ground := Ground.chain }], guard := none }) (v := .bool true) rfl (by kernel_rfl) (by kernel_rfl) (by kernel_rfl) (fun _ _ _ h => h) (Or.inl ⟨by rfl, fun w hw => by go_simp⟩) hH ?_
    try simp only [Act.put, List.setIfInBounds_toArray, List.set_cons_zero, List.set_cons_succ]
    refine wpAnyH_take (i := 6) (oi := { dst := some 25, op := Op.load 24 (Operand.tmp 5), type := 24, pos := "law.go:34", after := #[{ on := 5, ground := Ground.guard }], guard := some (5, true) }) (v := .agg (List.toArray E1)) rfl (by kernel_rfl) (by kernel_rfl) (by kernel_rfl) (fun _ _ _ h => h) (yieldsIf_load_mid (by rfl) _ _ rfl _ _ rfl E1 _ (fun _ h => h.r1) Tryd.underlying24 rfl hi1) hH ?_
    try simp only [Act.put, List.setIfInBounds_toArray, List.set_cons_zero, List.set_cons_succ]
    refine wpAnyH_take (i := 7) (oi := { dst := some 26, op := Op.load 24 (Operand.tmp 7), type := 24, pos := "law.go:34", after := #[{ on := 5, ground := Ground.guard }], guard := some (5, true) }) (v := .agg (List.toArray E1)) rfl (by kernel_rfl) (by kernel_rfl) (by kernel_rfl) (fun _ _ _ h => h) (yieldsIf_load_mid (by rfl) _ _ rfl _ _ rfl E1 _ (fun _ h => h.r2) Tryd.underlying24 rfl hi1) hH ?_
    try simp only [Act.put, List.setIfInBounds_toArray, List.set_cons_zero, List.set_cons_succ]
    refine wpAnyH_take (i := 8) (oi := { dst := some 27, op := Op.binOp BinOp.eql 24 (Operand.tmp 25) (Operand.tmp 26) 24, type := 4, pos := "law.go:34", after := #[{ on := 6, ground := Ground.data }, { on := 7, ground := Ground.data }, { on := 5, ground := Ground.guard }], guard := some (5, true) }) (v := .bool true) rfl (by kernel_rfl) (by kernel_rfl) (by kernel_rfl) (fun _ _ _ h => h) (Or.inl ⟨by rfl, fun w hw => by go_simp⟩) hH ?_
    try simp only [Act.put, List.setIfInBounds_toArray, List.set_cons_zero, List.set_cons_succ]
    refine wpAnyH_take (i := 9) (oi := { dst := some 28, op := Op.pick (Operand.tmp 24) (Operand.tmp 27) (Operand.const (Value.bool false)), type := 4, pos := "law.go:34", after := #[{ on := 5, ground := Ground.data }, { on := 8, ground := Ground.data }], guard := none }) (v := .bool true) rfl (by kernel_rfl) (by kernel_rfl) (by kernel_rfl) (fun _ _ _ h => h) (Or.inl ⟨by rfl, fun w hw => by go_simp⟩) hH ?_
    try simp only [Act.put, List.setIfInBounds_toArray, List.set_cons_zero, List.set_cons_succ]
    refine wpAnyH_take (i := 10) (oi := { dst := some 29, op := Op.move (Operand.tmp 28), type := 4, pos := "law.go:34", after := #[{ on := 9, ground := Ground.data }, { on := 5, ground := Ground.chain }], guard := none }) (v := .bool true) rfl (by kernel_rfl) (by kernel_rfl) (by kernel_rfl) (fun _ _ _ h => h) (Or.inl ⟨by rfl, fun w hw => by go_simp⟩) hH ?_
    try simp only [Act.put, List.setIfInBounds_toArray, List.set_cons_zero, List.set_cons_succ]
    refine wpAnyH_take (i := 11) (oi := { dst := some 30, op := Op.move (Operand.tmp 6), type := 36, pos := "law.go:34", after := #[{ on := 10, ground := Ground.guard }], guard := some (10, true) }) (v := .int .i64 0) rfl (by kernel_rfl) (by kernel_rfl) (by kernel_rfl) (fun _ _ _ h => h) (Or.inl ⟨by rfl, fun w hw => by go_simp⟩) hH ?_
    try simp only [Act.put, List.setIfInBounds_toArray, List.set_cons_zero, List.set_cons_succ]
    refine wpAnyH_take (i := 12) (oi := { dst := some 31, op := Op.binOp BinOp.eql 36 (Operand.tmp 30) (Operand.const (Value.int IntKind.i64 0)) 36, type := 4, pos := "law.go:34", after := #[{ on := 11, ground := Ground.data }, { on := 10, ground := Ground.guard }], guard := some (10, true) }) (v := .bool true) rfl (by kernel_rfl) (by kernel_rfl) (by kernel_rfl) (fun _ _ _ h => h) (Or.inl ⟨by rfl, fun w hw => by go_simp⟩) hH ?_
    try simp only [Act.put, List.setIfInBounds_toArray, List.set_cons_zero, List.set_cons_succ]
    refine wpAnyH_take (i := 13) (oi := { dst := some 32, op := Op.move (Operand.tmp 8), type := 4, pos := "law.go:34", after := #[{ on := 10, ground := Ground.guard }], guard := some (10, true) }) (v := .bool true) rfl (by kernel_rfl) (by kernel_rfl) (by kernel_rfl) (fun _ _ _ h => h) (Or.inl ⟨by rfl, fun w hw => by go_simp⟩) hH ?_
    try simp only [Act.put, List.setIfInBounds_toArray, List.set_cons_zero, List.set_cons_succ]
    refine wpAnyH_take (i := 14) (oi := { dst := some 33, op := Op.binOp BinOp.eql 4 (Operand.tmp 31) (Operand.tmp 32) 4, type := 4, pos := "law.go:34", after := #[{ on := 12, ground := Ground.data }, { on := 13, ground := Ground.data }, { on := 10, ground := Ground.guard }], guard := some (10, true) }) (v := .bool true) rfl (by kernel_rfl) (by kernel_rfl) (by kernel_rfl) (fun _ _ _ h => h) (Or.inl ⟨by rfl, fun w hw => by go_simp⟩) hH ?_
    try simp only [Act.put, List.setIfInBounds_toArray, List.set_cons_zero, List.set_cons_succ]
    refine wpAnyH_take (i := 15) (oi := { dst := some 34, op := Op.pick (Operand.tmp 29) (Operand.tmp 33) (Operand.const (Value.bool false)), type := 4, pos := "law.go:34", after := #[{ on := 10, ground := Ground.data }, { on := 14, ground := Ground.data }], guard := none }) (v := .bool true) rfl (by kernel_rfl) (by kernel_rfl) (by kernel_rfl) (fun _ _ _ h => h) (Or.inl ⟨by rfl, fun w hw => by go_simp⟩) hH ?_
    try simp only [Act.put, List.setIfInBounds_toArray, List.set_cons_zero, List.set_cons_succ]
    refine wpAnyH_take (i := 16) (oi := { dst := some 35, op := Op.move (Operand.tmp 34), type := 4, pos := "law.go:34", after := #[{ on := 15, ground := Ground.data }, { on := 10, ground := Ground.chain }], guard := none }) (v := .bool true) rfl (by kernel_rfl) (by kernel_rfl) (by kernel_rfl) (fun _ _ _ h => h) (Or.inl ⟨by rfl, fun w hw => by go_simp⟩) hH ?_
    try simp only [Act.put, List.setIfInBounds_toArray, List.set_cons_zero, List.set_cons_succ]
    refine wpAnyH_take (i := 17) (oi := { dst := some 36, op := Op.move (Operand.tmp 8), type := 4, pos := "law.go:34", after := #[{ on := 16, ground := Ground.guard }], guard := some (16, true) }) (v := .bool true) rfl (by kernel_rfl) (by kernel_rfl) (by kernel_rfl) (fun _ _ _ h => h) (Or.inl ⟨by rfl, fun w hw => by go_simp⟩) hH ?_
    try simp only [Act.put, List.setIfInBounds_toArray, List.set_cons_zero, List.set_cons_succ]
    refine wpAnyH_take (i := 18) (oi := { dst := some 37, op := Op.move (Operand.tmp 36), type := 4, pos := "law.go:34", after := #[{ on := 17, ground := Ground.data }, { on := 16, ground := Ground.chain }, { on := 16, ground := Ground.guard }], guard := some (16, true) }) (v := .bool true) rfl (by kernel_rfl) (by kernel_rfl) (by kernel_rfl) (fun _ _ _ h => h) (Or.inl ⟨by rfl, fun w hw => by go_simp⟩) hH ?_
    try simp only [Act.put, List.setIfInBounds_toArray, List.set_cons_zero, List.set_cons_succ]
    refine wpAnyH_take (i := 19) (oi := { dst := some 38, op := Op.move (Operand.tmp 6), type := 36, pos := "law.go:34", after := #[{ on := 18, ground := Ground.guard }], guard := some (18, false) }) (v := undef) rfl (by kernel_rfl) (by kernel_rfl) (by kernel_rfl) (fun _ _ _ h => h) (Or.inr ⟨by rfl, rfl⟩) hH ?_
    try simp only [Act.put, List.setIfInBounds_toArray, List.set_cons_zero, List.set_cons_succ]
    refine wpAnyH_take (i := 20) (oi := { dst := some 39, op := Op.binOp BinOp.eql 36 (Operand.tmp 38) (Operand.const (Value.int IntKind.i64 3)) 36, type := 4, pos := "law.go:34", after := #[{ on := 19, ground := Ground.data }, { on := 18, ground := Ground.guard }], guard := some (18, false) }) (v := undef) rfl (by kernel_rfl) (by kernel_rfl) (by kernel_rfl) (fun _ _ _ h => h) (Or.inr ⟨by rfl, rfl⟩) hH ?_
    try simp only [Act.put, List.setIfInBounds_toArray, List.set_cons_zero, List.set_cons_succ]
    refine wpAnyH_take (i := 21) (oi := { dst := some 40, op := Op.pick (Operand.tmp 37) (Operand.const (Value.bool true)) (Operand.tmp 39), type := 4, pos := "law.go:34", after := #[{ on := 18, ground := Ground.data }, { on := 20, ground := Ground.data }, { on := 16, ground := Ground.guard }], guard := some (16, true) }) (v := .bool true) rfl (by kernel_rfl) (by kernel_rfl) (by kernel_rfl) (fun _ _ _ h => h) (Or.inl ⟨by rfl, fun w hw => by go_simp⟩) hH ?_
    try simp only [Act.put, List.setIfInBounds_toArray, List.set_cons_zero, List.set_cons_succ]
    refine wpAnyH_take (i := 22) (oi := { dst := some 41, op := Op.pick (Operand.tmp 35) (Operand.tmp 40) (Operand.const (Value.bool false)), type := 4, pos := "law.go:34", after := #[{ on := 16, ground := Ground.data }, { on := 21, ground := Ground.data }], guard := none }) (v := .bool true) rfl (by kernel_rfl) (by kernel_rfl) (by kernel_rfl) (fun _ _ _ h => h) (Or.inl ⟨by rfl, fun w hw => by go_simp⟩) hH ?_
    try simp only [Act.put, List.setIfInBounds_toArray, List.set_cons_zero, List.set_cons_succ]
    refine wpAnyH_take (i := 23) (oi := { dst := some 42, op := Op.move (Operand.tmp 41), type := 4, pos := "law.go:34", after := #[{ on := 22, ground := Ground.data }, { on := 18, ground := Ground.chain }], guard := none }) (v := .bool true) rfl (by kernel_rfl) (by kernel_rfl) (by kernel_rfl) (fun _ _ _ h => h) (Or.inl ⟨by rfl, fun w hw => by go_simp⟩) hH ?_
    try simp only [Act.put, List.setIfInBounds_toArray, List.set_cons_zero, List.set_cons_succ]
    refine wpAnyH_ready (rs := [24]) (by kernel_rfl) (by simp) ?_
    refine AllReadyH.cons (o := { dst := some 43, op := Op.call { callee := Callee.value (Operand.func 11), args := #[], argTypes := #[] }, type := 4, pos := "law.go:34", after := #[{ on := 23, ground := Ground.chain }, { on := 23, ground := Ground.guard }], guard := some (23, true) }) rfl (fun K hK => ?_) AllReadyH.nil
    go_simp
    refine (c11 _ hH).mono ?_
    rintro e W3 ⟨rfl, hC⟩
    go_wp2_with fail
    refine hK.out _ _ hC (fun hC2 => ?_)
    clear hK K hH hC2
    have hH := hC
    clear hC
    try simp only [Act.put, List.setIfInBounds_toArray, List.set_cons_zero, List.set_cons_succ]
    refine wpAnyH_take (i := 25) (oi := { dst := some 44, op := Op.pick (Operand.tmp 42) (Operand.tmp 43) (Operand.const (Value.bool false)), type := 4, pos := "law.go:34", after := #[{ on := 23, ground := Ground.data }, { on := 24, ground := Ground.data }], guard := none }) (v := .bool true) rfl (by kernel_rfl) (by kernel_rfl) (by kernel_rfl) (fun _ _ _ h => h) (Or.inl ⟨by rfl, fun w hw => by go_simp⟩) hH ?_
    try simp only [Act.put, List.setIfInBounds_toArray, List.set_cons_zero, List.set_cons_succ]
    refine wpAnyH_take (i := 26) (oi := { dst := some 4, op := Op.assign (Operand.tmp 44), type := 4, pos := "law.go:34", after := #[{ on := 25, ground := Ground.data }, { on := 24, ground := Ground.chain }, { on := 0, ground := Ground.phase }, { on := 1, ground := Ground.phase }, { on := 2, ground := Ground.phase }, { on := 3, ground := Ground.phase }, { on := 4, ground := Ground.phase }, { on := 5, ground := Ground.phase }, { on := 6, ground := Ground.phase }, { on := 7, ground := Ground.phase }, { on := 8, ground := Ground.phase }, { on := 9, ground := Ground.phase }, { on := 10, ground := Ground.phase }, { on := 11, ground := Ground.phase }, { on := 12, ground := Ground.phase }, { on := 13, ground := Ground.phase }, { on := 14, ground := Ground.phase }, { on := 15, ground := Ground.phase }, { on := 16, ground := Ground.phase }, { on := 17, ground := Ground.phase }, { on := 18, ground := Ground.phase }, { on := 19, ground := Ground.phase }, { on := 20, ground := Ground.phase }, { on := 21, ground := Ground.phase }, { on := 22, ground := Ground.phase }, { on := 23, ground := Ground.phase }, { on := 24, ground := Ground.phase }, { on := 25, ground := Ground.phase }], guard := none }) (v := .bool true) rfl (by kernel_rfl) (by kernel_rfl) (by kernel_rfl) (fun _ _ _ h => h) (Or.inl ⟨by rfl, fun w hw => by go_simp⟩) hH ?_
    try simp only [Act.put, List.setIfInBounds_toArray, List.set_cons_zero, List.set_cons_succ]
    refine wpAnyH_done (by kernel_rfl) ?_ _
    refine NoPanic.normal ?_
    go_wp2
    go_ret
    exact ⟨rfl, hH.bel⟩
  · rw [decide_eq_false (by decide : ¬ (3 : Int) = 0)]
    refine wp_region_noPanic ?_
    refine wp_region_held_drew (S := HexS w w.heap.size w1.heap.size w3.heap.size E0 E1 E1) (by kernel_rfl) hS.drew (fun hH => ?_)
    refine wpAnyH_take (i := 0) (oi := { dst := some 19, op := Op.load 24 (Operand.tmp 2), type := 24, pos := "law.go:34", after := #[], guard := none }) (v := .agg (List.toArray E0)) rfl (by kernel_rfl) (by kernel_rfl) (by kernel_rfl) (fun _ _ _ h => h) (yieldsIf_load_mid (by rfl) _ _ rfl _ _ rfl E0 _ (fun _ h => h.r0) Tryd.underlying24 rfl hi0) hH ?_
    try simp only [Act.put, List.setIfInBounds_toArray, List.set_cons_zero, List.set_cons_succ]
    refine wpAnyH_take (i := 2) (oi := { dst := some 21, op := Op.load 24 (Operand.tmp 2), type := 24, pos := "law.go:34", after := #[], guard := none }) (v := .agg (List.toArray E0)) rfl (by kernel_rfl) (by kernel_rfl) (by kernel_rfl) (fun _ _ _ h => h) (yieldsIf_load_mid (by rfl) _ _ rfl _ _ rfl E0 _ (fun _ h => h.r0) Tryd.underlying24 rfl hi0) hH ?_
    try simp only [Act.put, List.setIfInBounds_toArray, List.set_cons_zero, List.set_cons_succ]
    refine wpAnyH_ready (rs := [1]) (by kernel_rfl) (by simp) ?_
    refine AllReadyH.cons (o := { dst := some 20, op := Op.call { callee := Callee.value (Operand.func 19), args := #[Operand.tmp 19], argTypes := #[24] }, type := 9, pos := "law.go:34", after := #[{ on := 0, ground := Ground.data }], guard := none }) rfl (fun K hK => ?_) AllReadyH.nil
    go_simp
    refine (c19 _ hH).mono ?_
    rintro e W1 ⟨rfl, hC⟩
    go_wp2_with fail
    refine hK.out _ _ hC (fun hC2 => ?_)
    clear hK K hH hC2
    have hH := hC
    clear hC
    try simp only [Act.put, List.setIfInBounds_toArray, List.set_cons_zero, List.set_cons_succ]
    refine wpAnyH_ready (rs := [3]) (by kernel_rfl) (by simp) ?_
    refine AllReadyH.cons (o := { dst := some 22, op := Op.call { callee := Callee.value (Operand.func 20), args := #[Operand.tmp 21], argTypes := #[24] }, type := 9, pos := "law.go:34", after := #[{ on := 2, ground := Ground.data }, { on := 1, ground := Ground.chain }], guard := none }) rfl (fun K hK => ?_) AllReadyH.nil
    go_simp
    refine (c20 _ hH).mono ?_
    rintro e W2 ⟨rfl, hC⟩
    go_wp2_with fail
    refine hK.out _ _ hC (fun hC2 => ?_)
    clear hK K hH hC2
    have hH := hC
    clear hC
    try simp only [Act.put, List.setIfInBounds_toArray, List.set_cons_zero, List.set_cons_succ]
    refine wpAnyH_take (i := 4) (oi := { dst := some 23, op := Op.binOp BinOp.eql 9 (Operand.tmp 20) (Operand.tmp 22) 9, type := 4, pos := "law.go:34", after := #[{ on := 1, ground := Ground.data }, { on := 3, ground := Ground.data }], guard := none }) (v := .bool true) rfl (by kernel_rfl) (by kernel_rfl) (by kernel_rfl) (fun _ _ _ h => h) (Or.inl ⟨by rfl, fun w hw => by go_simp⟩) hH ?_
    try simp only [Act.put, List.setIfInBounds_toArray, List.set_cons_zero, List.set_cons_succ]
    refine wpAnyH_take (i := 5) (oi := { dst := some 24, op := Op.move (Operand.tmp 23), type := 4, pos := "law.go:34", after := #[{ on := 4, ground := Ground.data }, { on := 3, ground := Ground.chain }], guard := none }) (v := .bool true) rfl (by kernel_rfl) (by kernel_rfl) (by kernel_rfl) (fun _ _ _ h => h) (Or.inl ⟨by rfl, fun w hw => by go_simp⟩) hH ?_
    try simp only [Act.put, List.setIfInBounds_toArray, List.set_cons_zero, List.set_cons_succ]
    refine wpAnyH_take (i := 6) (oi := { dst := some 25, op := Op.load 24 (Operand.tmp 5), type := 24, pos := "law.go:34", after := #[{ on := 5, ground := Ground.guard }], guard := some (5, true) }) (v := .agg (List.toArray E1)) rfl (by kernel_rfl) (by kernel_rfl) (by kernel_rfl) (fun _ _ _ h => h) (yieldsIf_load_mid (by rfl) _ _ rfl _ _ rfl E1 _ (fun _ h => h.r1) Tryd.underlying24 rfl hi1) hH ?_
    try simp only [Act.put, List.setIfInBounds_toArray, List.set_cons_zero, List.set_cons_succ]
    refine wpAnyH_take (i := 7) (oi := { dst := some 26, op := Op.load 24 (Operand.tmp 7), type := 24, pos := "law.go:34", after := #[{ on := 5, ground := Ground.guard }], guard := some (5, true) }) (v := .agg (List.toArray E1)) rfl (by kernel_rfl) (by kernel_rfl) (by kernel_rfl) (fun _ _ _ h => h) (yieldsIf_load_mid (by rfl) _ _ rfl _ _ rfl E1 _ (fun _ h => h.r2) Tryd.underlying24 rfl hi1) hH ?_
    try simp only [Act.put, List.setIfInBounds_toArray, List.set_cons_zero, List.set_cons_succ]
    refine wpAnyH_take (i := 8) (oi := { dst := some 27, op := Op.binOp BinOp.eql 24 (Operand.tmp 25) (Operand.tmp 26) 24, type := 4, pos := "law.go:34", after := #[{ on := 6, ground := Ground.data }, { on := 7, ground := Ground.data }, { on := 5, ground := Ground.guard }], guard := some (5, true) }) (v := .bool true) rfl (by kernel_rfl) (by kernel_rfl) (by kernel_rfl) (fun _ _ _ h => h) (Or.inl ⟨by rfl, fun w hw => by go_simp⟩) hH ?_
    try simp only [Act.put, List.setIfInBounds_toArray, List.set_cons_zero, List.set_cons_succ]
    refine wpAnyH_take (i := 9) (oi := { dst := some 28, op := Op.pick (Operand.tmp 24) (Operand.tmp 27) (Operand.const (Value.bool false)), type := 4, pos := "law.go:34", after := #[{ on := 5, ground := Ground.data }, { on := 8, ground := Ground.data }], guard := none }) (v := .bool true) rfl (by kernel_rfl) (by kernel_rfl) (by kernel_rfl) (fun _ _ _ h => h) (Or.inl ⟨by rfl, fun w hw => by go_simp⟩) hH ?_
    try simp only [Act.put, List.setIfInBounds_toArray, List.set_cons_zero, List.set_cons_succ]
    refine wpAnyH_take (i := 10) (oi := { dst := some 29, op := Op.move (Operand.tmp 28), type := 4, pos := "law.go:34", after := #[{ on := 9, ground := Ground.data }, { on := 5, ground := Ground.chain }], guard := none }) (v := .bool true) rfl (by kernel_rfl) (by kernel_rfl) (by kernel_rfl) (fun _ _ _ h => h) (Or.inl ⟨by rfl, fun w hw => by go_simp⟩) hH ?_
    try simp only [Act.put, List.setIfInBounds_toArray, List.set_cons_zero, List.set_cons_succ]
    refine wpAnyH_take (i := 11) (oi := { dst := some 30, op := Op.move (Operand.tmp 6), type := 36, pos := "law.go:34", after := #[{ on := 10, ground := Ground.guard }], guard := some (10, true) }) (v := .int .i64 3) rfl (by kernel_rfl) (by kernel_rfl) (by kernel_rfl) (fun _ _ _ h => h) (Or.inl ⟨by rfl, fun w hw => by go_simp⟩) hH ?_
    try simp only [Act.put, List.setIfInBounds_toArray, List.set_cons_zero, List.set_cons_succ]
    refine wpAnyH_take (i := 12) (oi := { dst := some 31, op := Op.binOp BinOp.eql 36 (Operand.tmp 30) (Operand.const (Value.int IntKind.i64 0)) 36, type := 4, pos := "law.go:34", after := #[{ on := 11, ground := Ground.data }, { on := 10, ground := Ground.guard }], guard := some (10, true) }) (v := .bool false) rfl (by kernel_rfl) (by kernel_rfl) (by kernel_rfl) (fun _ _ _ h => h) (Or.inl ⟨by rfl, fun w hw => by go_simp⟩) hH ?_
    try simp only [Act.put, List.setIfInBounds_toArray, List.set_cons_zero, List.set_cons_succ]
    refine wpAnyH_take (i := 13) (oi := { dst := some 32, op := Op.move (Operand.tmp 8), type := 4, pos := "law.go:34", after := #[{ on := 10, ground := Ground.guard }], guard := some (10, true) }) (v := .bool false) rfl (by kernel_rfl) (by kernel_rfl) (by kernel_rfl) (fun _ _ _ h => h) (Or.inl ⟨by rfl, fun w hw => by go_simp⟩) hH ?_
    try simp only [Act.put, List.setIfInBounds_toArray, List.set_cons_zero, List.set_cons_succ]
    refine wpAnyH_take (i := 14) (oi := { dst := some 33, op := Op.binOp BinOp.eql 4 (Operand.tmp 31) (Operand.tmp 32) 4, type := 4, pos := "law.go:34", after := #[{ on := 12, ground := Ground.data }, { on := 13, ground := Ground.data }, { on := 10, ground := Ground.guard }], guard := some (10, true) }) (v := .bool true) rfl (by kernel_rfl) (by kernel_rfl) (by kernel_rfl) (fun _ _ _ h => h) (Or.inl ⟨by rfl, fun w hw => by go_simp⟩) hH ?_
    try simp only [Act.put, List.setIfInBounds_toArray, List.set_cons_zero, List.set_cons_succ]
    refine wpAnyH_take (i := 15) (oi := { dst := some 34, op := Op.pick (Operand.tmp 29) (Operand.tmp 33) (Operand.const (Value.bool false)), type := 4, pos := "law.go:34", after := #[{ on := 10, ground := Ground.data }, { on := 14, ground := Ground.data }], guard := none }) (v := .bool true) rfl (by kernel_rfl) (by kernel_rfl) (by kernel_rfl) (fun _ _ _ h => h) (Or.inl ⟨by rfl, fun w hw => by go_simp⟩) hH ?_
    try simp only [Act.put, List.setIfInBounds_toArray, List.set_cons_zero, List.set_cons_succ]
    refine wpAnyH_take (i := 16) (oi := { dst := some 35, op := Op.move (Operand.tmp 34), type := 4, pos := "law.go:34", after := #[{ on := 15, ground := Ground.data }, { on := 10, ground := Ground.chain }], guard := none }) (v := .bool true) rfl (by kernel_rfl) (by kernel_rfl) (by kernel_rfl) (fun _ _ _ h => h) (Or.inl ⟨by rfl, fun w hw => by go_simp⟩) hH ?_
    try simp only [Act.put, List.setIfInBounds_toArray, List.set_cons_zero, List.set_cons_succ]
    refine wpAnyH_take (i := 17) (oi := { dst := some 36, op := Op.move (Operand.tmp 8), type := 4, pos := "law.go:34", after := #[{ on := 16, ground := Ground.guard }], guard := some (16, true) }) (v := .bool false) rfl (by kernel_rfl) (by kernel_rfl) (by kernel_rfl) (fun _ _ _ h => h) (Or.inl ⟨by rfl, fun w hw => by go_simp⟩) hH ?_
    try simp only [Act.put, List.setIfInBounds_toArray, List.set_cons_zero, List.set_cons_succ]
    refine wpAnyH_take (i := 18) (oi := { dst := some 37, op := Op.move (Operand.tmp 36), type := 4, pos := "law.go:34", after := #[{ on := 17, ground := Ground.data }, { on := 16, ground := Ground.chain }, { on := 16, ground := Ground.guard }], guard := some (16, true) }) (v := .bool false) rfl (by kernel_rfl) (by kernel_rfl) (by kernel_rfl) (fun _ _ _ h => h) (Or.inl ⟨by rfl, fun w hw => by go_simp⟩) hH ?_
    try simp only [Act.put, List.setIfInBounds_toArray, List.set_cons_zero, List.set_cons_succ]
    refine wpAnyH_take (i := 19) (oi := { dst := some 38, op := Op.move (Operand.tmp 6), type := 36, pos := "law.go:34", after := #[{ on := 18, ground := Ground.guard }], guard := some (18, false) }) (v := .int .i64 3) rfl (by kernel_rfl) (by kernel_rfl) (by kernel_rfl) (fun _ _ _ h => h) (Or.inl ⟨by rfl, fun w hw => by go_simp⟩) hH ?_
    try simp only [Act.put, List.setIfInBounds_toArray, List.set_cons_zero, List.set_cons_succ]
    refine wpAnyH_take (i := 20) (oi := { dst := some 39, op := Op.binOp BinOp.eql 36 (Operand.tmp 38) (Operand.const (Value.int IntKind.i64 3)) 36, type := 4, pos := "law.go:34", after := #[{ on := 19, ground := Ground.data }, { on := 18, ground := Ground.guard }], guard := some (18, false) }) (v := .bool true) rfl (by kernel_rfl) (by kernel_rfl) (by kernel_rfl) (fun _ _ _ h => h) (Or.inl ⟨by rfl, fun w hw => by go_simp⟩) hH ?_
    try simp only [Act.put, List.setIfInBounds_toArray, List.set_cons_zero, List.set_cons_succ]
    refine wpAnyH_take (i := 21) (oi := { dst := some 40, op := Op.pick (Operand.tmp 37) (Operand.const (Value.bool true)) (Operand.tmp 39), type := 4, pos := "law.go:34", after := #[{ on := 18, ground := Ground.data }, { on := 20, ground := Ground.data }, { on := 16, ground := Ground.guard }], guard := some (16, true) }) (v := .bool true) rfl (by kernel_rfl) (by kernel_rfl) (by kernel_rfl) (fun _ _ _ h => h) (Or.inl ⟨by rfl, fun w hw => by go_simp⟩) hH ?_
    try simp only [Act.put, List.setIfInBounds_toArray, List.set_cons_zero, List.set_cons_succ]
    refine wpAnyH_take (i := 22) (oi := { dst := some 41, op := Op.pick (Operand.tmp 35) (Operand.tmp 40) (Operand.const (Value.bool false)), type := 4, pos := "law.go:34", after := #[{ on := 16, ground := Ground.data }, { on := 21, ground := Ground.data }], guard := none }) (v := .bool true) rfl (by kernel_rfl) (by kernel_rfl) (by kernel_rfl) (fun _ _ _ h => h) (Or.inl ⟨by rfl, fun w hw => by go_simp⟩) hH ?_
    try simp only [Act.put, List.setIfInBounds_toArray, List.set_cons_zero, List.set_cons_succ]
    refine wpAnyH_take (i := 23) (oi := { dst := some 42, op := Op.move (Operand.tmp 41), type := 4, pos := "law.go:34", after := #[{ on := 22, ground := Ground.data }, { on := 18, ground := Ground.chain }], guard := none }) (v := .bool true) rfl (by kernel_rfl) (by kernel_rfl) (by kernel_rfl) (fun _ _ _ h => h) (Or.inl ⟨by rfl, fun w hw => by go_simp⟩) hH ?_
    try simp only [Act.put, List.setIfInBounds_toArray, List.set_cons_zero, List.set_cons_succ]
    refine wpAnyH_ready (rs := [24]) (by kernel_rfl) (by simp) ?_
    refine AllReadyH.cons (o := { dst := some 43, op := Op.call { callee := Callee.value (Operand.func 11), args := #[], argTypes := #[] }, type := 4, pos := "law.go:34", after := #[{ on := 23, ground := Ground.chain }, { on := 23, ground := Ground.guard }], guard := some (23, true) }) rfl (fun K hK => ?_) AllReadyH.nil
    go_simp
    refine (c11 _ hH).mono ?_
    rintro e W3 ⟨rfl, hC⟩
    go_wp2_with fail
    refine hK.out _ _ hC (fun hC2 => ?_)
    clear hK K hH hC2
    have hH := hC
    clear hC
    try simp only [Act.put, List.setIfInBounds_toArray, List.set_cons_zero, List.set_cons_succ]
    refine wpAnyH_take (i := 25) (oi := { dst := some 44, op := Op.pick (Operand.tmp 42) (Operand.tmp 43) (Operand.const (Value.bool false)), type := 4, pos := "law.go:34", after := #[{ on := 23, ground := Ground.data }, { on := 24, ground := Ground.data }], guard := none }) (v := .bool true) rfl (by kernel_rfl) (by kernel_rfl) (by kernel_rfl) (fun _ _ _ h => h) (Or.inl ⟨by rfl, fun w hw => by go_simp⟩) hH ?_
    try simp only [Act.put, List.setIfInBounds_toArray, List.set_cons_zero, List.set_cons_succ]
    refine wpAnyH_take (i := 26) (oi := { dst := some 4, op := Op.assign (Operand.tmp 44), type := 4, pos := "law.go:34", after := #[{ on := 25, ground := Ground.data }, { on := 24, ground := Ground.chain }, { on := 0, ground := Ground.phase }, { on := 1, ground := Ground.phase }, { on := 2, ground := Ground.phase }, { on := 3, ground := Ground.phase }, { on := 4, ground := Ground.phase }, { on := 5, ground := Ground.phase }, { on := 6, ground := Ground.phase }, { on := 7, ground := Ground.phase }, { on := 8, ground := Ground.phase }, { on := 9, ground := Ground.phase }, { on := 10, ground := Ground.phase }, { on := 11, ground := Ground.phase }, { on := 12, ground := Ground.phase }, { on := 13, ground := Ground.phase }, { on := 14, ground := Ground.phase }, { on := 15, ground := Ground.phase }, { on := 16, ground := Ground.phase }, { on := 17, ground := Ground.phase }, { on := 18, ground := Ground.phase }, { on := 19, ground := Ground.phase }, { on := 20, ground := Ground.phase }, { on := 21, ground := Ground.phase }, { on := 22, ground := Ground.phase }, { on := 23, ground := Ground.phase }, { on := 24, ground := Ground.phase }, { on := 25, ground := Ground.phase }], guard := none }) (v := .bool true) rfl (by kernel_rfl) (by kernel_rfl) (by kernel_rfl) (fun _ _ _ h => h) (Or.inl ⟨by rfl, fun w hw => by go_simp⟩) hH ?_
    try simp only [Act.put, List.setIfInBounds_toArray, List.set_cons_zero, List.set_cons_succ]
    refine wpAnyH_done (by kernel_rfl) ?_ _
    refine NoPanic.normal ?_
    go_wp2
    go_ret
    exact ⟨rfl, hH.bel⟩
end Go.Proofs.YtljghknojbpccaaDoor
