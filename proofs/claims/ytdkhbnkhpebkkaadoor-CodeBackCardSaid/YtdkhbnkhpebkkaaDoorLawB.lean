/-
  THE WALK OF CodeBack.
-/
import Derived.Test.YtdkhbnkhpebkkaaDoorAwake
import Derived.Test.YtdkhbnkhpebkkaaDoorSame
import Derived.Test.YtdkhbnkhpebkkaaDoorEnc
import Derived.Deep.RegionHeld3
namespace Go.Proofs.YtdkhbnkhpebkkaaDoor
set_option linter.unusedSimpArgs false
set_option linter.unusedVariables false
open Go.RowKit
/-- what holds in the last regions -/
def BkS (w : World) (A5 : Option Addr) (k4 : Nat) (bs : List UInt8) (A6 : Option Addr) (n6 : Nat) (x : List Ins) (W : World) : Prop :=
  Below w.heap.size w W ∧ Rd W A5 k4 bs ∧ IRd W A6 n6 x
theorem BkS.later {w : World} {A5 : Option Addr} {k4 : Nat} {bs : List UInt8} {A6 : Option Addr} {n6 : Nat} {x : List Ins} {W W' : World} (h : BkS w A5 k4 bs A6 n6 x W) (hb : Below W.heap.size W W') : BkS w A5 k4 bs A6 n6 x W' :=
  ⟨h.1.trans (hb.mono h.1.size), h.2.1.grown hb, h.2.2.below hb⟩
theorem BkS.drew {w : World} {A5 : Option Addr} {k4 : Nat} {bs : List UInt8} {A6 : Option Addr} {n6 : Nat} {x : List Ins} {W : World} (h : BkS w A5 k4 bs A6 n6 x W) : BkS w A5 k4 bs A6 n6 x W.drew := ⟨h.1.drew, ⟨h.2.1.len, h.2.1.cells⟩, ⟨h.2.2.len, h.2.2.cells⟩⟩
theorem ird_none (w : World) : IRd w none 0 [] := ⟨rfl, fun k i h => by simp at h⟩

set_option maxRecDepth 100000 in
set_option maxHeartbeats 4000000 in
open Classical in
theorem codeBack_ok (A : Option Addr) (n c : Nat) (l : List Ins) (B : Option Addr) (m d : Nat) (p : List Ins) (w : World) (hR : IRd w A n l) (hnc : n ≤ c) (hn : n ≤ 9223372036854775807) (hS : IRd w B m p) (hmd : m ≤ d) (hm : m ≤ 9223372036854775807) (hg : ET w) (hok : chk (l.take 140) = none) :
    Calls Tryd.prog 6 #[.slice A n c, .slice B m d] w fun e w' => e = .returned (.bool true) ∧ Below w.heap.size w w' := by
  have hpos := hg.lt
  go_enter Tryd.func6, Tryd.ntmps6
  go_wp2_with fail
  refine (few_any A n c w hnc hn).mono ?_
  rintro e w' ⟨rfl, rfl⟩
  go_wp2_with fail
  refine (few_any B m d w hmd hm).mono ?_
  rintro e w' ⟨rfl, rfl⟩
  have hR1 := hR.take 140
  have hS1 := hS.take 140
  have hk : min n 140 ≤ 140 := by omega
  have hk2 : min m 140 ≤ 140 := by omega
  clear hnc hn hR hS hmd hm
  generalize min n 140 = k at *
  generalize min m 140 = k2 at *
  generalize l.take 140 = x at *
  generalize p.take 140 = y at *
  have hxl := hR1.len
  go_wp2_with fail
  refine (encode_any A k c x w hR1 (by omega)).mono ?_
  rintro e w1 ⟨A5, c5, rfl, hE, hc5, hb1⟩
  go_wp2_with fail
  refine (decode_any A5 (4 * k) c5 (bytesI x) w1 hE hc5 (by omega) (hg.below hb1 hpos)).mono ?_
  rintro e w2 ⟨A6, n6, v6, rfl, hch, hI, _, hb2⟩
  have hlx : (bytesI x).length % 4 = 0 := by rw [bytesI_len]; omega
  have hbel2 := hb1.trans (hb2.mono hb1.size)
  have hdl : decL (bytesI x) = [] := decL_ok hlx (by rw [listI_bytesI]; exact hok)
  have hI2 := hI hdl
  rw [listI_bytesI] at hI2
  rw [hdl] at hch
  obtain rfl : v6 = .nilIface := hch
  have hn6 : n6 = k := by rw [← hI2.len, hxl]
  subst hn6
  have hH0 : BkS w A5 (4 * n6) (bytesI x) A6 n6 x w2 := ⟨hbel2, hE.grown hb2, hI2⟩
  have HOK := Lib.hid hok
  clear hI hdl hI2 hlx hb1 hb2 hE hbel2 hok
  have c10 : ∀ W, BkS w A5 (4 * n6) (bytesI x) A6 n6 x W → Calls Tryd.prog 10 #[.slice A n6 c] W fun e W' => e = .returned .nilIface ∧ BkS w A5 (4 * n6) (bytesI x) A6 n6 x W' := fun W h => by
    refine (check_any A n6 c x W (hR1.below h.1) (by omega)).mono ?_
    rintro e W' ⟨v, rfl, hc, hb⟩
    rw [HOK.out] at hc
    obtain rfl : v = .nilIface := hc
    exact ⟨rfl, h.later hb⟩
  have c12 : ∀ W, BkS w A5 (4 * n6) (bytesI x) A6 n6 x W → Calls Tryd.prog 12 #[.slice A6 n6 n6, .slice A n6 c] W fun e W' => e = .returned (.bool true) ∧ BkS w A5 (4 * n6) (bytesI x) A6 n6 x W' := fun W h => by
    refine (same_any A6 n6 n6 x A n6 c x W h.2.2 (hR1.below h.1) (by omega) (by omega)).mono ?_
    rintro e W' ⟨rfl, hb⟩
    exact ⟨by rw [decide_eq_true (rfl : x = x)], h.later hb⟩
  go_wp2_with fail
  have hw4 : IntKind.i64.wrap (4 * (n6 : Int)) = 4 * (n6 : Int) := IntWalk.i64_in _ (by omega)
  refine wp_region_noPanic ?_
  refine wp_region_held_drew (S := BkS w A5 (4 * n6) (bytesI x) A6 n6 x) (by kernel_rfl) hH0.drew (fun hH => ?_)
  refine wpAnyH_take (i := 0) (oi := { dst := some 19, op := Op.move (Operand.tmp 7), type := 26, pos := "law.go:82", after := #[], guard := none }) (v := .nilIface) rfl (by kernel_rfl) (by kernel_rfl) (by kernel_rfl) (fun _ _ _ h => h) (Or.inl ⟨by rfl, fun w hw => by go_simp⟩) hH ?_
  try simp only [Act.put, List.setIfInBounds_toArray, List.set_cons_zero, List.set_cons_succ]
  refine wpAnyH_take (i := 1) (oi := { dst := some 20, op := Op.binOp BinOp.eql 26 (Operand.tmp 19) (Operand.const Value.nilIface) 26, type := 4, pos := "law.go:82", after := #[{ on := 0, ground := Ground.data }], guard := none }) (v := .bool true) rfl (by kernel_rfl) (by kernel_rfl) (by kernel_rfl) (fun _ _ _ h => h) (Or.inl ⟨by rfl, fun w hw => by go_simp⟩) hH ?_
  try simp only [Act.put, List.setIfInBounds_toArray, List.set_cons_zero, List.set_cons_succ]
  refine wpAnyH_take (i := 2) (oi := { dst := some 21, op := Op.move (Operand.tmp 0), type := 23, pos := "law.go:82", after := #[], guard := none }) (v := .slice A n6 c) rfl (by kernel_rfl) (by kernel_rfl) (by kernel_rfl) (fun _ _ _ h => h) (Or.inl ⟨by rfl, fun w hw => by go_simp⟩) hH ?_
  try simp only [Act.put, List.setIfInBounds_toArray, List.set_cons_zero, List.set_cons_succ]
  refine wpAnyH_ready (rs := [3]) (by kernel_rfl) (by simp) ?_
  refine AllReadyH.cons (o := { dst := some 22, op := Op.call { callee := Callee.value (Operand.func 10), args := #[Operand.tmp 21], argTypes := #[23] }, type := 26, pos := "law.go:82", after := #[{ on := 2, ground := Ground.data }], guard := none }) rfl (fun K hK => ?_) AllReadyH.nil
  go_simp
  refine (c10 _ hH).mono ?_
  rintro e W1 ⟨rfl, hC⟩
  go_wp2_with fail
  refine hK.out _ _ hC (fun hC2 => ?_)
  clear hK K hH hC2
  have hH := hC
  clear hC
  try simp only [Act.put, List.setIfInBounds_toArray, List.set_cons_zero, List.set_cons_succ]
  refine wpAnyH_take (i := 4) (oi := { dst := some 23, op := Op.binOp BinOp.eql 26 (Operand.tmp 22) (Operand.const Value.nilIface) 26, type := 4, pos := "law.go:82", after := #[{ on := 3, ground := Ground.data }], guard := none }) (v := .bool true) rfl (by kernel_rfl) (by kernel_rfl) (by kernel_rfl) (fun _ _ _ h => h) (Or.inl ⟨by rfl, fun w hw => by go_simp⟩) hH ?_
  try simp only [Act.put, List.setIfInBounds_toArray, List.set_cons_zero, List.set_cons_succ]
  refine wpAnyH_take (i := 5) (oi := { dst := some 24, op := Op.binOp BinOp.neq 4 (Operand.tmp 20) (Operand.tmp 23) 4, type := 4, pos := "law.go:82", after := #[{ on := 1, ground := Ground.data }, { on := 4, ground := Ground.data }], guard := none }) (v := .bool false) rfl (by kernel_rfl) (by kernel_rfl) (by kernel_rfl) (fun _ _ _ h => h) (Or.inl ⟨by rfl, fun w hw => by go_simp⟩) hH ?_
  try simp only [Act.put, List.setIfInBounds_toArray, List.set_cons_zero, List.set_cons_succ]
  refine wpAnyH_take (i := 6) (oi := { dst := some 25, op := Op.move (Operand.tmp 24), type := 4, pos := "law.go:82", after := #[{ on := 5, ground := Ground.data }, { on := 3, ground := Ground.chain }], guard := none }) (v := .bool false) rfl (by kernel_rfl) (by kernel_rfl) (by kernel_rfl) (fun _ _ _ h => h) (Or.inl ⟨by rfl, fun w hw => by go_simp⟩) hH ?_
  try simp only [Act.put, List.setIfInBounds_toArray, List.set_cons_zero, List.set_cons_succ]
  refine wpAnyH_take (i := 7) (oi := { dst := some 26, op := Op.move (Operand.tmp 7), type := 26, pos := "law.go:82", after := #[{ on := 6, ground := Ground.guard }], guard := some (6, false) }) (v := .nilIface) rfl (by kernel_rfl) (by kernel_rfl) (by kernel_rfl) (fun _ _ _ h => h) (Or.inl ⟨by rfl, fun w hw => by go_simp⟩) hH ?_
  try simp only [Act.put, List.setIfInBounds_toArray, List.set_cons_zero, List.set_cons_succ]
  refine wpAnyH_take (i := 8) (oi := { dst := some 27, op := Op.binOp BinOp.eql 26 (Operand.tmp 26) (Operand.const Value.nilIface) 26, type := 4, pos := "law.go:82", after := #[{ on := 7, ground := Ground.data }, { on := 6, ground := Ground.guard }], guard := some (6, false) }) (v := .bool true) rfl (by kernel_rfl) (by kernel_rfl) (by kernel_rfl) (fun _ _ _ h => h) (Or.inl ⟨by rfl, fun w hw => by go_simp⟩) hH ?_
  try simp only [Act.put, List.setIfInBounds_toArray, List.set_cons_zero, List.set_cons_succ]
  refine wpAnyH_take (i := 9) (oi := { dst := some 28, op := Op.move (Operand.tmp 27), type := 4, pos := "law.go:82", after := #[{ on := 8, ground := Ground.data }, { on := 6, ground := Ground.chain }, { on := 6, ground := Ground.guard }], guard := some (6, false) }) (v := .bool true) rfl (by kernel_rfl) (by kernel_rfl) (by kernel_rfl) (fun _ _ _ h => h) (Or.inl ⟨by rfl, fun w hw => by go_simp⟩) hH ?_
  try simp only [Act.put, List.setIfInBounds_toArray, List.set_cons_zero, List.set_cons_succ]
  refine wpAnyH_take (i := 10) (oi := { dst := some 29, op := Op.move (Operand.tmp 6), type := 23, pos := "law.go:82", after := #[{ on := 9, ground := Ground.guard }], guard := some (9, true) }) (v := .slice A6 n6 n6) rfl (by kernel_rfl) (by kernel_rfl) (by kernel_rfl) (fun _ _ _ h => h) (Or.inl ⟨by rfl, fun w hw => by go_simp⟩) hH ?_
  try simp only [Act.put, List.setIfInBounds_toArray, List.set_cons_zero, List.set_cons_succ]
  refine wpAnyH_take (i := 11) (oi := { dst := some 30, op := Op.move (Operand.tmp 0), type := 23, pos := "law.go:82", after := #[{ on := 9, ground := Ground.guard }], guard := some (9, true) }) (v := .slice A n6 c) rfl (by kernel_rfl) (by kernel_rfl) (by kernel_rfl) (fun _ _ _ h => h) (Or.inl ⟨by rfl, fun w hw => by go_simp⟩) hH ?_
  try simp only [Act.put, List.setIfInBounds_toArray, List.set_cons_zero, List.set_cons_succ]
  refine wpAnyH_ready (rs := [12]) (by kernel_rfl) (by simp) ?_
  refine AllReadyH.cons (o := { dst := some 31, op := Op.call { callee := Callee.value (Operand.func 12), args := #[Operand.tmp 29, Operand.tmp 30], argTypes := #[23, 23] }, type := 4, pos := "law.go:82", after := #[{ on := 10, ground := Ground.data }, { on := 11, ground := Ground.data }, { on := 9, ground := Ground.chain }, { on := 9, ground := Ground.guard }], guard := some (9, true) }) rfl (fun K hK => ?_) AllReadyH.nil
  go_simp
  refine (c12 _ hH).mono ?_
  rintro e W2 ⟨rfl, hC⟩
  go_wp2_with fail
  refine hK.out _ _ hC (fun hC2 => ?_)
  clear hK K hH hC2
  have hH := hC
  clear hC
  try simp only [Act.put, List.setIfInBounds_toArray, List.set_cons_zero, List.set_cons_succ]
  refine wpAnyH_take (i := 13) (oi := { dst := some 32, op := Op.unOp UnOp.not 4 (Operand.tmp 31), type := 4, pos := "law.go:82", after := #[{ on := 12, ground := Ground.data }, { on := 9, ground := Ground.guard }], guard := some (9, true) }) (v := .bool false) rfl (by kernel_rfl) (by kernel_rfl) (by kernel_rfl) (fun _ _ _ h => h) (Or.inl ⟨by rfl, fun w hw => by go_simp⟩) hH ?_
  try simp only [Act.put, List.setIfInBounds_toArray, List.set_cons_zero, List.set_cons_succ]
  refine wpAnyH_take (i := 14) (oi := { dst := some 33, op := Op.pick (Operand.tmp 28) (Operand.tmp 32) (Operand.const (Value.bool false)), type := 4, pos := "law.go:82", after := #[{ on := 9, ground := Ground.data }, { on := 13, ground := Ground.data }, { on := 6, ground := Ground.guard }], guard := some (6, false) }) (v := .bool false) rfl (by kernel_rfl) (by kernel_rfl) (by kernel_rfl) (fun _ _ _ h => h) (Or.inl ⟨by rfl, fun w hw => by go_simp⟩) hH ?_
  try simp only [Act.put, List.setIfInBounds_toArray, List.set_cons_zero, List.set_cons_succ]
  refine wpAnyH_take (i := 15) (oi := { dst := some 34, op := Op.pick (Operand.tmp 25) (Operand.const (Value.bool true)) (Operand.tmp 33), type := 4, pos := "law.go:82", after := #[{ on := 6, ground := Ground.data }, { on := 14, ground := Ground.data }], guard := none }) (v := .bool false) rfl (by kernel_rfl) (by kernel_rfl) (by kernel_rfl) (fun _ _ _ h => h) (Or.inl ⟨by rfl, fun w hw => by go_simp⟩) hH ?_
  try simp only [Act.put, List.setIfInBounds_toArray, List.set_cons_zero, List.set_cons_succ]
  refine wpAnyH_take (i := 16) (oi := { dst := some 35, op := Op.move (Operand.tmp 34), type := 4, pos := "law.go:82", after := #[{ on := 15, ground := Ground.data }, { on := 12, ground := Ground.chain }], guard := none }) (v := .bool false) rfl (by kernel_rfl) (by kernel_rfl) (by kernel_rfl) (fun _ _ _ h => h) (Or.inl ⟨by rfl, fun w hw => by go_simp⟩) hH ?_
  try simp only [Act.put, List.setIfInBounds_toArray, List.set_cons_zero, List.set_cons_succ]
  refine wpAnyH_take (i := 17) (oi := { dst := some 36, op := Op.move (Operand.tmp 5), type := 36, pos := "law.go:82", after := #[{ on := 16, ground := Ground.guard }], guard := some (16, false) }) (v := .slice A5 (4 * n6) c5) rfl (by kernel_rfl) (by kernel_rfl) (by kernel_rfl) (fun _ _ _ h => h) (Or.inl ⟨by rfl, fun w hw => by go_simp⟩) hH ?_
  try simp only [Act.put, List.setIfInBounds_toArray, List.set_cons_zero, List.set_cons_succ]
  refine wpAnyH_take (i := 18) (oi := { dst := some 37, op := Op.call { callee := Callee.builtin Builtin.len, args := #[Operand.tmp 36], argTypes := #[36] }, type := 3, pos := "law.go:82", after := #[{ on := 17, ground := Ground.data }, { on := 16, ground := Ground.guard }], guard := some (16, false) }) (v := .int .i64 (4 * (n6 : Int))) rfl (by kernel_rfl) (by kernel_rfl) (by kernel_rfl) (fun _ _ _ h => h) (Or.inl ⟨by rfl, fun w hw => by go_simp⟩) hH ?_
  try simp only [Act.put, List.setIfInBounds_toArray, List.set_cons_zero, List.set_cons_succ]
  refine wpAnyH_take (i := 19) (oi := { dst := some 38, op := Op.move (Operand.tmp 0), type := 23, pos := "law.go:82", after := #[{ on := 16, ground := Ground.guard }], guard := some (16, false) }) (v := .slice A n6 c) rfl (by kernel_rfl) (by kernel_rfl) (by kernel_rfl) (fun _ _ _ h => h) (Or.inl ⟨by rfl, fun w hw => by go_simp⟩) hH ?_
  try simp only [Act.put, List.setIfInBounds_toArray, List.set_cons_zero, List.set_cons_succ]
  refine wpAnyH_take (i := 20) (oi := { dst := some 39, op := Op.call { callee := Callee.builtin Builtin.len, args := #[Operand.tmp 38], argTypes := #[23] }, type := 3, pos := "law.go:82", after := #[{ on := 19, ground := Ground.data }, { on := 16, ground := Ground.guard }], guard := some (16, false) }) (v := .int .i64 (n6 : Int)) rfl (by kernel_rfl) (by kernel_rfl) (by kernel_rfl) (fun _ _ _ h => h) (Or.inl ⟨by rfl, fun w hw => by go_simp⟩) hH ?_
  try simp only [Act.put, List.setIfInBounds_toArray, List.set_cons_zero, List.set_cons_succ]
  refine wpAnyH_take (i := 21) (oi := { dst := some 40, op := Op.binOp BinOp.mul 3 (Operand.const (Value.int IntKind.i64 4)) (Operand.tmp 39) 3, type := 3, pos := "law.go:82", after := #[{ on := 20, ground := Ground.data }, { on := 16, ground := Ground.guard }], guard := some (16, false) }) (v := .int .i64 (4 * (n6 : Int))) rfl (by kernel_rfl) (by kernel_rfl) (by kernel_rfl) (fun _ _ _ h => h) (Or.inl ⟨by rfl, fun w hw => by go_simp⟩) hH ?_
  try simp only [Act.put, List.setIfInBounds_toArray, List.set_cons_zero, List.set_cons_succ]
  refine wpAnyH_take (i := 22) (oi := { dst := some 41, op := Op.binOp BinOp.neq 3 (Operand.tmp 37) (Operand.tmp 40) 3, type := 4, pos := "law.go:82", after := #[{ on := 18, ground := Ground.data }, { on := 21, ground := Ground.data }, { on := 16, ground := Ground.guard }], guard := some (16, false) }) (v := .bool false) rfl (by kernel_rfl) (by kernel_rfl) (by kernel_rfl) (fun _ _ _ h => h) (Or.inl ⟨by rfl, fun w hw => by go_simp⟩) hH ?_
  try simp only [Act.put, List.setIfInBounds_toArray, List.set_cons_zero, List.set_cons_succ]
  refine wpAnyH_take (i := 23) (oi := { dst := some 42, op := Op.pick (Operand.tmp 35) (Operand.const (Value.bool true)) (Operand.tmp 41), type := 4, pos := "law.go:82", after := #[{ on := 16, ground := Ground.data }, { on := 22, ground := Ground.data }], guard := none }) (v := .bool false) rfl (by kernel_rfl) (by kernel_rfl) (by kernel_rfl) (fun _ _ _ h => h) (Or.inl ⟨by rfl, fun w hw => by go_simp⟩) hH ?_
  try simp only [Act.put, List.setIfInBounds_toArray, List.set_cons_zero, List.set_cons_succ]
  refine wpAnyH_done (by kernel_rfl) ?_ _
  refine NoPanic.normal ?_
  have hH6 : BkS w A5 (4 * n6) (bytesI x) none 0 [] _ := ⟨hH.1, hH.2.1, ird_none _⟩
  clear c10 c12 hH hH0
  obtain ⟨b0, hb0⟩ : ∃ b0, decide (x = y) = b0 := ⟨_, rfl⟩
  have hstr : (bytesI x == bytesI y) = b0 := by
    rw [← hb0]
    by_cases h : x = y
    · subst h; simp
    · rw [decide_eq_false h, beq_eq_false_iff_ne]
      exact fun e => h (bytesI_inj e)
  have c12b : ∀ W, BkS w A5 (4 * n6) (bytesI x) none 0 [] W → Calls Tryd.prog 12 #[.slice A n6 c, .slice B k2 d] W fun e W' => e = .returned (.bool b0) ∧ BkS w A5 (4 * n6) (bytesI x) none 0 [] W' := fun W h => by
    refine (same_any A n6 c x B k2 d y W (hR1.below h.1) (hS1.below h.1) (by omega) (by omega)).mono ?_
    rintro e W' ⟨rfl, hb⟩
    exact ⟨by rw [hb0], h.later hb⟩
  have c8 : ∀ W, BkS w A5 (4 * n6) (bytesI x) none 0 [] W → Calls Tryd.prog 8 #[] W fun e W' => e = .returned (.bool true) ∧ BkS w A5 (4 * n6) (bytesI x) none 0 [] W' := fun W h => by
    refine (awake_any W (hg.below h.1 hpos)).mono ?_
    rintro e W' ⟨rfl, hb⟩
    exact ⟨rfl, h.later hb⟩
  go_wp2
  refine wp_region_noPanic ?_
  refine wp_region_held_drew (S := BkS w A5 (4 * n6) (bytesI x) none 0 []) (by kernel_rfl) hH6.drew (fun hH => ?_)
  refine wpAnyH_take (i := 0) (oi := { dst := some 43, op := Op.move (Operand.tmp 5), type := 36, pos := "law.go:85", after := #[], guard := none }) (v := .slice A5 (4 * n6) c5) rfl (by kernel_rfl) (by kernel_rfl) (by kernel_rfl) (fun _ _ _ h => h) (Or.inl ⟨by rfl, fun w hw => by go_simp⟩) hH ?_
  try simp only [Act.put, List.setIfInBounds_toArray, List.set_cons_zero, List.set_cons_succ]
  refine wpAnyH_take (i := 1) (oi := { dst := some 44, op := Op.convert 36 9 (Operand.tmp 43), type := 9, pos := "law.go:85", after := #[{ on := 0, ground := Ground.data }], guard := none }) (v := .string ⟨(bytesI x).toArray⟩) rfl (by kernel_rfl) (by kernel_rfl) (by kernel_rfl) (fun _ _ _ h => h) (Or.inl ⟨by rfl, fun W hW => by have hcv := conv_rd (bytesI x) A5 (4 * n6) c5 W hW.2.1; go_simp⟩) hH ?_
  try simp only [Act.put, List.setIfInBounds_toArray, List.set_cons_zero, List.set_cons_succ]
  refine wpAnyH_take (i := 2) (oi := { dst := some 45, op := Op.move (Operand.tmp 1), type := 23, pos := "law.go:85", after := #[], guard := none }) (v := .slice B k2 d) rfl (by kernel_rfl) (by kernel_rfl) (by kernel_rfl) (fun _ _ _ h => h) (Or.inl ⟨by rfl, fun w hw => by go_simp⟩) hH ?_
  try simp only [Act.put, List.setIfInBounds_toArray, List.set_cons_zero, List.set_cons_succ]
  refine wpAnyH_take (i := 6) (oi := { dst := some 49, op := Op.move (Operand.tmp 0), type := 23, pos := "law.go:85", after := #[], guard := none }) (v := .slice A n6 c) rfl (by kernel_rfl) (by kernel_rfl) (by kernel_rfl) (fun _ _ _ h => h) (Or.inl ⟨by rfl, fun w hw => by go_simp⟩) hH ?_
  try simp only [Act.put, List.setIfInBounds_toArray, List.set_cons_zero, List.set_cons_succ]
  refine wpAnyH_take (i := 7) (oi := { dst := some 50, op := Op.move (Operand.tmp 1), type := 23, pos := "law.go:85", after := #[], guard := none }) (v := .slice B k2 d) rfl (by kernel_rfl) (by kernel_rfl) (by kernel_rfl) (fun _ _ _ h => h) (Or.inl ⟨by rfl, fun w hw => by go_simp⟩) hH ?_
  try simp only [Act.put, List.setIfInBounds_toArray, List.set_cons_zero, List.set_cons_succ]
  refine wpAnyH_ready (rs := [3]) (by kernel_rfl) (by simp) ?_
  refine AllReadyH.cons (o := { dst := some 46, op := Op.call { callee := Callee.value (Operand.func 17), args := #[Operand.tmp 45], argTypes := #[23] }, type := 36, pos := "law.go:85", after := #[{ on := 2, ground := Ground.data }], guard := none }) rfl (fun K hK => ?_) AllReadyH.nil
  go_simp
  refine (encode_any B k2 d y _ (hS1.below hH.1) (by omega)).mono ?_
  rintro e W3 ⟨A7, c7, rfl, hE7, _, hb7⟩
  have hC := hH.later hb7
  go_wp2_with fail
  refine hK.out _ _ hC (fun hC2 => ?_)
  clear hK K hH hC2 hb7
  have hH := hC
  clear hC
  try simp only [Act.put, List.setIfInBounds_toArray, List.set_cons_zero, List.set_cons_succ]
  refine wpAnyH_ready (rs := [4, 8]) (by kernel_rfl) (by simp) ?_
  refine AllReadyH.cons (o := { dst := some 47, op := Op.convert 36 9 (Operand.tmp 46), type := 9, pos := "law.go:85", after := #[{ on := 3, ground := Ground.data }], guard := none }) rfl (fun K hK => ?_) (AllReadyH.cons (o := { dst := some 51, op := Op.call { callee := Callee.value (Operand.func 12), args := #[Operand.tmp 49, Operand.tmp 50], argTypes := #[23, 23] }, type := 4, pos := "law.go:85", after := #[{ on := 6, ground := Ground.data }, { on := 7, ground := Ground.data }, { on := 3, ground := Ground.chain }], guard := none }) rfl (fun K hK => ?_) AllReadyH.nil)
  · have hcv := conv_rd (bytesI y) A7 (4 * k2) c7 _ hE7
    go_simp
    clear hcv
    have hC := hH
    refine hK.out _ _ hC (fun hC2 => ?_)
    clear hK K hH hC2
    have hH := hC
    clear hC
    try simp only [Act.put, List.setIfInBounds_toArray, List.set_cons_zero, List.set_cons_succ]
    refine wpAnyH_take (i := 5) (oi := { dst := some 48, op := Op.binOp BinOp.eql 9 (Operand.tmp 44) (Operand.tmp 47) 9, type := 4, pos := "law.go:85", after := #[{ on := 1, ground := Ground.data }, { on := 4, ground := Ground.data }], guard := none }) (v := .bool b0) rfl (by kernel_rfl) (by kernel_rfl) (by kernel_rfl) (fun _ _ _ h => h) (Or.inl ⟨by rfl, fun w hw => by go_simp⟩) hH ?_
    try simp only [Act.put, List.setIfInBounds_toArray, List.set_cons_zero, List.set_cons_succ]
    refine wpAnyH_ready (rs := [8]) (by kernel_rfl) (by simp) ?_
    refine AllReadyH.cons (o := { dst := some 51, op := Op.call { callee := Callee.value (Operand.func 12), args := #[Operand.tmp 49, Operand.tmp 50], argTypes := #[23, 23] }, type := 4, pos := "law.go:85", after := #[{ on := 6, ground := Ground.data }, { on := 7, ground := Ground.data }, { on := 3, ground := Ground.chain }], guard := none }) rfl (fun K hK => ?_) AllReadyH.nil
    go_simp
    refine (c12b _ hH).mono ?_
    rintro e W4 ⟨rfl, hC⟩
    go_wp2_with fail
    refine hK.out _ _ hC (fun hC2 => ?_)
    clear hK K hH hC2
    have hH := hC
    clear hC
    try simp only [Act.put, List.setIfInBounds_toArray, List.set_cons_zero, List.set_cons_succ]
    refine wpAnyH_take (i := 9) (oi := { dst := some 52, op := Op.binOp BinOp.eql 4 (Operand.tmp 48) (Operand.tmp 51) 4, type := 4, pos := "law.go:85", after := #[{ on := 5, ground := Ground.data }, { on := 8, ground := Ground.data }], guard := none }) (v := .bool true) rfl (by kernel_rfl) (by kernel_rfl) (by kernel_rfl) (fun _ _ _ h => h) (Or.inl ⟨by rfl, fun w hw => by go_simp⟩) hH ?_
    try simp only [Act.put, List.setIfInBounds_toArray, List.set_cons_zero, List.set_cons_succ]
    refine wpAnyH_take (i := 10) (oi := { dst := some 53, op := Op.move (Operand.tmp 52), type := 4, pos := "law.go:85", after := #[{ on := 9, ground := Ground.data }, { on := 8, ground := Ground.chain }], guard := none }) (v := .bool true) rfl (by kernel_rfl) (by kernel_rfl) (by kernel_rfl) (fun _ _ _ h => h) (Or.inl ⟨by rfl, fun w hw => by go_simp⟩) hH ?_
    try simp only [Act.put, List.setIfInBounds_toArray, List.set_cons_zero, List.set_cons_succ]
    refine wpAnyH_ready (rs := [11]) (by kernel_rfl) (by simp) ?_
    refine AllReadyH.cons (o := { dst := some 54, op := Op.call { callee := Callee.value (Operand.func 8), args := #[], argTypes := #[] }, type := 4, pos := "law.go:85", after := #[{ on := 10, ground := Ground.chain }, { on := 10, ground := Ground.guard }], guard := some (10, true) }) rfl (fun K hK => ?_) AllReadyH.nil
    go_simp
    refine (c8 _ hH).mono ?_
    rintro e W5 ⟨rfl, hC⟩
    go_wp2_with fail
    refine hK.out _ _ hC (fun hC2 => ?_)
    clear hK K hH hC2
    have hH := hC
    clear hC
    try simp only [Act.put, List.setIfInBounds_toArray, List.set_cons_zero, List.set_cons_succ]
    refine wpAnyH_take (i := 12) (oi := { dst := some 55, op := Op.pick (Operand.tmp 53) (Operand.tmp 54) (Operand.const (Value.bool false)), type := 4, pos := "law.go:85", after := #[{ on := 10, ground := Ground.data }, { on := 11, ground := Ground.data }], guard := none }) (v := .bool true) rfl (by kernel_rfl) (by kernel_rfl) (by kernel_rfl) (fun _ _ _ h => h) (Or.inl ⟨by rfl, fun w hw => by go_simp⟩) hH ?_
    try simp only [Act.put, List.setIfInBounds_toArray, List.set_cons_zero, List.set_cons_succ]
    refine wpAnyH_take (i := 13) (oi := { dst := some 4, op := Op.assign (Operand.tmp 55), type := 4, pos := "law.go:85", after := #[{ on := 12, ground := Ground.data }, { on := 11, ground := Ground.chain }, { on := 0, ground := Ground.phase }, { on := 1, ground := Ground.phase }, { on := 2, ground := Ground.phase }, { on := 3, ground := Ground.phase }, { on := 4, ground := Ground.phase }, { on := 5, ground := Ground.phase }, { on := 6, ground := Ground.phase }, { on := 7, ground := Ground.phase }, { on := 8, ground := Ground.phase }, { on := 9, ground := Ground.phase }, { on := 10, ground := Ground.phase }, { on := 11, ground := Ground.phase }, { on := 12, ground := Ground.phase }], guard := none }) (v := .bool true) rfl (by kernel_rfl) (by kernel_rfl) (by kernel_rfl) (fun _ _ _ h => h) (Or.inl ⟨by rfl, fun w hw => by go_simp⟩) hH ?_
    try simp only [Act.put, List.setIfInBounds_toArray, List.set_cons_zero, List.set_cons_succ]
    refine wpAnyH_done (by kernel_rfl) ?_ _
    refine NoPanic.normal ?_
    go_wp2
    go_ret
    exact ⟨rfl, hH.1⟩
  · go_simp
    refine (same_any A n6 c x B k2 d y _ (hR1.below hH.1) (hS1.below hH.1) (by omega) (by omega)).mono ?_
    rintro e W4 ⟨rfl, hb4⟩
    rw [hb0]
    have hC := hH.later hb4
    replace hE7 := hE7.grown hb4
    go_wp2_with fail
    refine hK.out _ _ hC (fun hC2 => ?_)
    clear hK K hH hC2 hb4
    have hH := hC
    clear hC
    try simp only [Act.put, List.setIfInBounds_toArray, List.set_cons_zero, List.set_cons_succ]
    refine wpAnyH_ready (rs := [4]) (by kernel_rfl) (by simp) ?_
    refine AllReadyH.cons (o := { dst := some 47, op := Op.convert 36 9 (Operand.tmp 46), type := 9, pos := "law.go:85", after := #[{ on := 3, ground := Ground.data }], guard := none }) rfl (fun K hK => ?_) AllReadyH.nil
    have hcv := conv_rd (bytesI y) A7 (4 * k2) c7 _ hE7
    go_simp
    clear hcv
    have hC := hH
    refine hK.out _ _ hC (fun hC2 => ?_)
    clear hK K hH hC2
    have hH := hC
    clear hC
    try simp only [Act.put, List.setIfInBounds_toArray, List.set_cons_zero, List.set_cons_succ]
    refine wpAnyH_take (i := 5) (oi := { dst := some 48, op := Op.binOp BinOp.eql 9 (Operand.tmp 44) (Operand.tmp 47) 9, type := 4, pos := "law.go:85", after := #[{ on := 1, ground := Ground.data }, { on := 4, ground := Ground.data }], guard := none }) (v := .bool b0) rfl (by kernel_rfl) (by kernel_rfl) (by kernel_rfl) (fun _ _ _ h => h) (Or.inl ⟨by rfl, fun w hw => by go_simp⟩) hH ?_
    try simp only [Act.put, List.setIfInBounds_toArray, List.set_cons_zero, List.set_cons_succ]
    refine wpAnyH_take (i := 9) (oi := { dst := some 52, op := Op.binOp BinOp.eql 4 (Operand.tmp 48) (Operand.tmp 51) 4, type := 4, pos := "law.go:85", after := #[{ on := 5, ground := Ground.data }, { on := 8, ground := Ground.data }], guard := none }) (v := .bool true) rfl (by kernel_rfl) (by kernel_rfl) (by kernel_rfl) (fun _ _ _ h => h) (Or.inl ⟨by rfl, fun w hw => by go_simp⟩) hH ?_
    try simp only [Act.put, List.setIfInBounds_toArray, List.set_cons_zero, List.set_cons_succ]
    refine wpAnyH_take (i := 10) (oi := { dst := some 53, op := Op.move (Operand.tmp 52), type := 4, pos := "law.go:85", after := #[{ on := 9, ground := Ground.data }, { on := 8, ground := Ground.chain }], guard := none }) (v := .bool true) rfl (by kernel_rfl) (by kernel_rfl) (by kernel_rfl) (fun _ _ _ h => h) (Or.inl ⟨by rfl, fun w hw => by go_simp⟩) hH ?_
    try simp only [Act.put, List.setIfInBounds_toArray, List.set_cons_zero, List.set_cons_succ]
    refine wpAnyH_ready (rs := [11]) (by kernel_rfl) (by simp) ?_
    refine AllReadyH.cons (o := { dst := some 54, op := Op.call { callee := Callee.value (Operand.func 8), args := #[], argTypes := #[] }, type := 4, pos := "law.go:85", after := #[{ on := 10, ground := Ground.chain }, { on := 10, ground := Ground.guard }], guard := some (10, true) }) rfl (fun K hK => ?_) AllReadyH.nil
    go_simp
    refine (c8 _ hH).mono ?_
    rintro e W5 ⟨rfl, hC⟩
    go_wp2_with fail
    refine hK.out _ _ hC (fun hC2 => ?_)
    clear hK K hH hC2
    have hH := hC
    clear hC
    try simp only [Act.put, List.setIfInBounds_toArray, List.set_cons_zero, List.set_cons_succ]
    refine wpAnyH_take (i := 12) (oi := { dst := some 55, op := Op.pick (Operand.tmp 53) (Operand.tmp 54) (Operand.const (Value.bool false)), type := 4, pos := "law.go:85", after := #[{ on := 10, ground := Ground.data }, { on := 11, ground := Ground.data }], guard := none }) (v := .bool true) rfl (by kernel_rfl) (by kernel_rfl) (by kernel_rfl) (fun _ _ _ h => h) (Or.inl ⟨by rfl, fun w hw => by go_simp⟩) hH ?_
    try simp only [Act.put, List.setIfInBounds_toArray, List.set_cons_zero, List.set_cons_succ]
    refine wpAnyH_take (i := 13) (oi := { dst := some 4, op := Op.assign (Operand.tmp 55), type := 4, pos := "law.go:85", after := #[{ on := 12, ground := Ground.data }, { on := 11, ground := Ground.chain }, { on := 0, ground := Ground.phase }, { on := 1, ground := Ground.phase }, { on := 2, ground := Ground.phase }, { on := 3, ground := Ground.phase }, { on := 4, ground := Ground.phase }, { on := 5, ground := Ground.phase }, { on := 6, ground := Ground.phase }, { on := 7, ground := Ground.phase }, { on := 8, ground := Ground.phase }, { on := 9, ground := Ground.phase }, { on := 10, ground := Ground.phase }, { on := 11, ground := Ground.phase }, { on := 12, ground := Ground.phase }], guard := none }) (v := .bool true) rfl (by kernel_rfl) (by kernel_rfl) (by kernel_rfl) (fun _ _ _ h => h) (Or.inl ⟨by rfl, fun w hw => by go_simp⟩) hH ?_
    try simp only [Act.put, List.setIfInBounds_toArray, List.set_cons_zero, List.set_cons_succ]
    refine wpAnyH_done (by kernel_rfl) ?_ _
    refine NoPanic.normal ?_
    go_wp2
    go_ret
    exact ⟨rfl, hH.1⟩
set_option maxRecDepth 100000 in
set_option maxHeartbeats 4000000 in
open Classical in
theorem codeBack_bad (A : Option Addr) (n c : Nat) (l : List Ins) (B : Option Addr) (m d : Nat) (p : List Ins) (w : World) (hR : IRd w A n l) (hnc : n ≤ c) (hn : n ≤ 9223372036854775807) (hS : IRd w B m p) (hmd : m ≤ d) (hm : m ≤ 9223372036854775807) (hg : ET w) (z : Int × Int) (hok : chk (l.take 140) = some z) :
    Calls Tryd.prog 6 #[.slice A n c, .slice B m d] w fun e w' => e = .returned (.bool true) ∧ Below w.heap.size w w' := by
  have hpos := hg.lt
  go_enter Tryd.func6, Tryd.ntmps6
  go_wp2_with fail
  refine (few_any A n c w hnc hn).mono ?_
  rintro e w' ⟨rfl, rfl⟩
  go_wp2_with fail
  refine (few_any B m d w hmd hm).mono ?_
  rintro e w' ⟨rfl, rfl⟩
  have hR1 := hR.take 140
  have hS1 := hS.take 140
  have hk : min n 140 ≤ 140 := by omega
  have hk2 : min m 140 ≤ 140 := by omega
  clear hnc hn hR hS hmd hm
  generalize min n 140 = k at *
  generalize min m 140 = k2 at *
  generalize l.take 140 = x at *
  generalize p.take 140 = y at *
  have hxl := hR1.len
  go_wp2_with fail
  refine (encode_any A k c x w hR1 (by omega)).mono ?_
  rintro e w1 ⟨A5, c5, rfl, hE, hc5, hb1⟩
  go_wp2_with fail
  refine (decode_any A5 (4 * k) c5 (bytesI x) w1 hE hc5 (by omega) (hg.below hb1 hpos)).mono ?_
  rintro e w2 ⟨A6, n6, v6, rfl, hch, _, hZ, hb2⟩
  have hlx : (bytesI x).length % 4 = 0 := by rw [bytesI_len]; omega
  have hbel2 := hb1.trans (hb2.mono hb1.size)
  obtain ⟨zc, za⟩ := z
  have hdl : decL (bytesI x) = [(zc, 4 * za), (zc, za)] := decL_bad hlx (by rw [listI_bytesI]; exact hok)
  have hn6 := hZ (by rw [hdl]; intro h; cases h)
  subst hn6
  rw [hdl] at hch
  obtain ⟨b6, cause6, rfl, _, _⟩ := hch
  have hH0 : BkS w A5 (4 * k) (bytesI x) none 0 [] w2 := ⟨hbel2, hE.grown hb2, ird_none _⟩
  have HOK := Lib.hid hok
  clear hZ hdl hlx hb1 hb2 hE hbel2 hok
  have c10 : ∀ W, BkS w A5 (4 * k) (bytesI x) none 0 [] W → Calls Tryd.prog 10 #[.slice A k c] W fun e W' => ∃ b10, e = .returned (.iface 52 (.pointer (some ⟨b10, 0, none⟩))) ∧ BkS w A5 (4 * k) (bytesI x) none 0 [] W' := fun W h => by
    refine (check_any A k c x W (hR1.below h.1) (by omega)).mono ?_
    rintro e W' ⟨v, rfl, hc, hb⟩
    rw [HOK.out] at hc
    obtain ⟨b10, cause10, rfl, _, _⟩ := hc
    exact ⟨b10, rfl, h.later hb⟩
  go_wp2_with fail
  have hw4 : IntKind.i64.wrap (4 * (k : Int)) = 4 * (k : Int) := IntWalk.i64_in _ (by omega)
  refine wp_region_noPanic ?_
  refine wp_region_held_drew (S := BkS w A5 (4 * k) (bytesI x) none 0 []) (by kernel_rfl) hH0.drew (fun hH => ?_)
  refine wpAnyH_take (i := 0) (oi := { dst := some 19, op := Op.move (Operand.tmp 7), type := 26, pos := "law.go:82", after := #[], guard := none }) (v := .iface 52 (.pointer (some ⟨b6, 0, none⟩))) rfl (by kernel_rfl) (by kernel_rfl) (by kernel_rfl) (fun _ _ _ h => h) (Or.inl ⟨by rfl, fun w hw => by go_simp⟩) hH ?_
  try simp only [Act.put, List.setIfInBounds_toArray, List.set_cons_zero, List.set_cons_succ]
  refine wpAnyH_take (i := 1) (oi := { dst := some 20, op := Op.binOp BinOp.eql 26 (Operand.tmp 19) (Operand.const Value.nilIface) 26, type := 4, pos := "law.go:82", after := #[{ on := 0, ground := Ground.data }], guard := none }) (v := .bool false) rfl (by kernel_rfl) (by kernel_rfl) (by kernel_rfl) (fun _ _ _ h => h) (Or.inl ⟨by rfl, fun w hw => by go_simp⟩) hH ?_
  try simp only [Act.put, List.setIfInBounds_toArray, List.set_cons_zero, List.set_cons_succ]
  refine wpAnyH_take (i := 2) (oi := { dst := some 21, op := Op.move (Operand.tmp 0), type := 23, pos := "law.go:82", after := #[], guard := none }) (v := .slice A k c) rfl (by kernel_rfl) (by kernel_rfl) (by kernel_rfl) (fun _ _ _ h => h) (Or.inl ⟨by rfl, fun w hw => by go_simp⟩) hH ?_
  try simp only [Act.put, List.setIfInBounds_toArray, List.set_cons_zero, List.set_cons_succ]
  refine wpAnyH_ready (rs := [3]) (by kernel_rfl) (by simp) ?_
  refine AllReadyH.cons (o := { dst := some 22, op := Op.call { callee := Callee.value (Operand.func 10), args := #[Operand.tmp 21], argTypes := #[23] }, type := 26, pos := "law.go:82", after := #[{ on := 2, ground := Ground.data }], guard := none }) rfl (fun K hK => ?_) AllReadyH.nil
  go_simp
  refine (c10 _ hH).mono ?_
  rintro e W1 ⟨b10, rfl, hC⟩
  go_wp2_with fail
  refine hK.out _ _ hC (fun hC2 => ?_)
  clear hK K hH hC2
  have hH := hC
  clear hC
  try simp only [Act.put, List.setIfInBounds_toArray, List.set_cons_zero, List.set_cons_succ]
  refine wpAnyH_take (i := 4) (oi := { dst := some 23, op := Op.binOp BinOp.eql 26 (Operand.tmp 22) (Operand.const Value.nilIface) 26, type := 4, pos := "law.go:82", after := #[{ on := 3, ground := Ground.data }], guard := none }) (v := .bool false) rfl (by kernel_rfl) (by kernel_rfl) (by kernel_rfl) (fun _ _ _ h => h) (Or.inl ⟨by rfl, fun w hw => by go_simp⟩) hH ?_
  try simp only [Act.put, List.setIfInBounds_toArray, List.set_cons_zero, List.set_cons_succ]
  refine wpAnyH_take (i := 5) (oi := { dst := some 24, op := Op.binOp BinOp.neq 4 (Operand.tmp 20) (Operand.tmp 23) 4, type := 4, pos := "law.go:82", after := #[{ on := 1, ground := Ground.data }, { on := 4, ground := Ground.data }], guard := none }) (v := .bool false) rfl (by kernel_rfl) (by kernel_rfl) (by kernel_rfl) (fun _ _ _ h => h) (Or.inl ⟨by rfl, fun w hw => by go_simp⟩) hH ?_
  try simp only [Act.put, List.setIfInBounds_toArray, List.set_cons_zero, List.set_cons_succ]
  refine wpAnyH_take (i := 6) (oi := { dst := some 25, op := Op.move (Operand.tmp 24), type := 4, pos := "law.go:82", after := #[{ on := 5, ground := Ground.data }, { on := 3, ground := Ground.chain }], guard := none }) (v := .bool false) rfl (by kernel_rfl) (by kernel_rfl) (by kernel_rfl) (fun _ _ _ h => h) (Or.inl ⟨by rfl, fun w hw => by go_simp⟩) hH ?_
  try simp only [Act.put, List.setIfInBounds_toArray, List.set_cons_zero, List.set_cons_succ]
  refine wpAnyH_take (i := 7) (oi := { dst := some 26, op := Op.move (Operand.tmp 7), type := 26, pos := "law.go:82", after := #[{ on := 6, ground := Ground.guard }], guard := some (6, false) }) (v := .iface 52 (.pointer (some ⟨b6, 0, none⟩))) rfl (by kernel_rfl) (by kernel_rfl) (by kernel_rfl) (fun _ _ _ h => h) (Or.inl ⟨by rfl, fun w hw => by go_simp⟩) hH ?_
  try simp only [Act.put, List.setIfInBounds_toArray, List.set_cons_zero, List.set_cons_succ]
  refine wpAnyH_take (i := 8) (oi := { dst := some 27, op := Op.binOp BinOp.eql 26 (Operand.tmp 26) (Operand.const Value.nilIface) 26, type := 4, pos := "law.go:82", after := #[{ on := 7, ground := Ground.data }, { on := 6, ground := Ground.guard }], guard := some (6, false) }) (v := .bool false) rfl (by kernel_rfl) (by kernel_rfl) (by kernel_rfl) (fun _ _ _ h => h) (Or.inl ⟨by rfl, fun w hw => by go_simp⟩) hH ?_
  try simp only [Act.put, List.setIfInBounds_toArray, List.set_cons_zero, List.set_cons_succ]
  refine wpAnyH_take (i := 9) (oi := { dst := some 28, op := Op.move (Operand.tmp 27), type := 4, pos := "law.go:82", after := #[{ on := 8, ground := Ground.data }, { on := 6, ground := Ground.chain }, { on := 6, ground := Ground.guard }], guard := some (6, false) }) (v := .bool false) rfl (by kernel_rfl) (by kernel_rfl) (by kernel_rfl) (fun _ _ _ h => h) (Or.inl ⟨by rfl, fun w hw => by go_simp⟩) hH ?_
  try simp only [Act.put, List.setIfInBounds_toArray, List.set_cons_zero, List.set_cons_succ]
  refine wpAnyH_take (i := 10) (oi := { dst := some 29, op := Op.move (Operand.tmp 6), type := 23, pos := "law.go:82", after := #[{ on := 9, ground := Ground.guard }], guard := some (9, true) }) (v := undef) rfl (by kernel_rfl) (by kernel_rfl) (by kernel_rfl) (fun _ _ _ h => h) (Or.inr ⟨by rfl, rfl⟩) hH ?_
  try simp only [Act.put, List.setIfInBounds_toArray, List.set_cons_zero, List.set_cons_succ]
  refine wpAnyH_take (i := 11) (oi := { dst := some 30, op := Op.move (Operand.tmp 0), type := 23, pos := "law.go:82", after := #[{ on := 9, ground := Ground.guard }], guard := some (9, true) }) (v := undef) rfl (by kernel_rfl) (by kernel_rfl) (by kernel_rfl) (fun _ _ _ h => h) (Or.inr ⟨by rfl, rfl⟩) hH ?_
  try simp only [Act.put, List.setIfInBounds_toArray, List.set_cons_zero, List.set_cons_succ]
  refine wpAnyH_take (i := 12) (oi := { dst := some 31, op := Op.call { callee := Callee.value (Operand.func 12), args := #[Operand.tmp 29, Operand.tmp 30], argTypes := #[23, 23] }, type := 4, pos := "law.go:82", after := #[{ on := 10, ground := Ground.data }, { on := 11, ground := Ground.data }, { on := 9, ground := Ground.chain }, { on := 9, ground := Ground.guard }], guard := some (9, true) }) (v := undef) rfl (by kernel_rfl) (by kernel_rfl) (by kernel_rfl) (fun _ _ _ h => h) (Or.inr ⟨by rfl, rfl⟩) hH ?_
  try simp only [Act.put, List.setIfInBounds_toArray, List.set_cons_zero, List.set_cons_succ]
  refine wpAnyH_take (i := 13) (oi := { dst := some 32, op := Op.unOp UnOp.not 4 (Operand.tmp 31), type := 4, pos := "law.go:82", after := #[{ on := 12, ground := Ground.data }, { on := 9, ground := Ground.guard }], guard := some (9, true) }) (v := undef) rfl (by kernel_rfl) (by kernel_rfl) (by kernel_rfl) (fun _ _ _ h => h) (Or.inr ⟨by rfl, rfl⟩) hH ?_
  try simp only [Act.put, List.setIfInBounds_toArray, List.set_cons_zero, List.set_cons_succ]
  refine wpAnyH_take (i := 14) (oi := { dst := some 33, op := Op.pick (Operand.tmp 28) (Operand.tmp 32) (Operand.const (Value.bool false)), type := 4, pos := "law.go:82", after := #[{ on := 9, ground := Ground.data }, { on := 13, ground := Ground.data }, { on := 6, ground := Ground.guard }], guard := some (6, false) }) (v := .bool false) rfl (by kernel_rfl) (by kernel_rfl) (by kernel_rfl) (fun _ _ _ h => h) (Or.inl ⟨by rfl, fun w hw => by go_simp⟩) hH ?_
  try simp only [Act.put, List.setIfInBounds_toArray, List.set_cons_zero, List.set_cons_succ]
  refine wpAnyH_take (i := 15) (oi := { dst := some 34, op := Op.pick (Operand.tmp 25) (Operand.const (Value.bool true)) (Operand.tmp 33), type := 4, pos := "law.go:82", after := #[{ on := 6, ground := Ground.data }, { on := 14, ground := Ground.data }], guard := none }) (v := .bool false) rfl (by kernel_rfl) (by kernel_rfl) (by kernel_rfl) (fun _ _ _ h => h) (Or.inl ⟨by rfl, fun w hw => by go_simp⟩) hH ?_
  try simp only [Act.put, List.setIfInBounds_toArray, List.set_cons_zero, List.set_cons_succ]
  refine wpAnyH_take (i := 16) (oi := { dst := some 35, op := Op.move (Operand.tmp 34), type := 4, pos := "law.go:82", after := #[{ on := 15, ground := Ground.data }, { on := 12, ground := Ground.chain }], guard := none }) (v := .bool false) rfl (by kernel_rfl) (by kernel_rfl) (by kernel_rfl) (fun _ _ _ h => h) (Or.inl ⟨by rfl, fun w hw => by go_simp⟩) hH ?_
  try simp only [Act.put, List.setIfInBounds_toArray, List.set_cons_zero, List.set_cons_succ]
  refine wpAnyH_take (i := 17) (oi := { dst := some 36, op := Op.move (Operand.tmp 5), type := 36, pos := "law.go:82", after := #[{ on := 16, ground := Ground.guard }], guard := some (16, false) }) (v := .slice A5 (4 * k) c5) rfl (by kernel_rfl) (by kernel_rfl) (by kernel_rfl) (fun _ _ _ h => h) (Or.inl ⟨by rfl, fun w hw => by go_simp⟩) hH ?_
  try simp only [Act.put, List.setIfInBounds_toArray, List.set_cons_zero, List.set_cons_succ]
  refine wpAnyH_take (i := 18) (oi := { dst := some 37, op := Op.call { callee := Callee.builtin Builtin.len, args := #[Operand.tmp 36], argTypes := #[36] }, type := 3, pos := "law.go:82", after := #[{ on := 17, ground := Ground.data }, { on := 16, ground := Ground.guard }], guard := some (16, false) }) (v := .int .i64 (4 * (k : Int))) rfl (by kernel_rfl) (by kernel_rfl) (by kernel_rfl) (fun _ _ _ h => h) (Or.inl ⟨by rfl, fun w hw => by go_simp⟩) hH ?_
  try simp only [Act.put, List.setIfInBounds_toArray, List.set_cons_zero, List.set_cons_succ]
  refine wpAnyH_take (i := 19) (oi := { dst := some 38, op := Op.move (Operand.tmp 0), type := 23, pos := "law.go:82", after := #[{ on := 16, ground := Ground.guard }], guard := some (16, false) }) (v := .slice A k c) rfl (by kernel_rfl) (by kernel_rfl) (by kernel_rfl) (fun _ _ _ h => h) (Or.inl ⟨by rfl, fun w hw => by go_simp⟩) hH ?_
  try simp only [Act.put, List.setIfInBounds_toArray, List.set_cons_zero, List.set_cons_succ]
  refine wpAnyH_take (i := 20) (oi := { dst := some 39, op := Op.call { callee := Callee.builtin Builtin.len, args := #[Operand.tmp 38], argTypes := #[23] }, type := 3, pos := "law.go:82", after := #[{ on := 19, ground := Ground.data }, { on := 16, ground := Ground.guard }], guard := some (16, false) }) (v := .int .i64 (k : Int)) rfl (by kernel_rfl) (by kernel_rfl) (by kernel_rfl) (fun _ _ _ h => h) (Or.inl ⟨by rfl, fun w hw => by go_simp⟩) hH ?_
  try simp only [Act.put, List.setIfInBounds_toArray, List.set_cons_zero, List.set_cons_succ]
  refine wpAnyH_take (i := 21) (oi := { dst := some 40, op := Op.binOp BinOp.mul 3 (Operand.const (Value.int IntKind.i64 4)) (Operand.tmp 39) 3, type := 3, pos := "law.go:82", after := #[{ on := 20, ground := Ground.data }, { on := 16, ground := Ground.guard }], guard := some (16, false) }) (v := .int .i64 (4 * (k : Int))) rfl (by kernel_rfl) (by kernel_rfl) (by kernel_rfl) (fun _ _ _ h => h) (Or.inl ⟨by rfl, fun w hw => by go_simp⟩) hH ?_
  try simp only [Act.put, List.setIfInBounds_toArray, List.set_cons_zero, List.set_cons_succ]
  refine wpAnyH_take (i := 22) (oi := { dst := some 41, op := Op.binOp BinOp.neq 3 (Operand.tmp 37) (Operand.tmp 40) 3, type := 4, pos := "law.go:82", after := #[{ on := 18, ground := Ground.data }, { on := 21, ground := Ground.data }, { on := 16, ground := Ground.guard }], guard := some (16, false) }) (v := .bool false) rfl (by kernel_rfl) (by kernel_rfl) (by kernel_rfl) (fun _ _ _ h => h) (Or.inl ⟨by rfl, fun w hw => by go_simp⟩) hH ?_
  try simp only [Act.put, List.setIfInBounds_toArray, List.set_cons_zero, List.set_cons_succ]
  refine wpAnyH_take (i := 23) (oi := { dst := some 42, op := Op.pick (Operand.tmp 35) (Operand.const (Value.bool true)) (Operand.tmp 41), type := 4, pos := "law.go:82", after := #[{ on := 16, ground := Ground.data }, { on := 22, ground := Ground.data }], guard := none }) (v := .bool false) rfl (by kernel_rfl) (by kernel_rfl) (by kernel_rfl) (fun _ _ _ h => h) (Or.inl ⟨by rfl, fun w hw => by go_simp⟩) hH ?_
  try simp only [Act.put, List.setIfInBounds_toArray, List.set_cons_zero, List.set_cons_succ]
  refine wpAnyH_done (by kernel_rfl) ?_ _
  refine NoPanic.normal ?_
  have hH6 : BkS w A5 (4 * k) (bytesI x) none 0 [] _ := ⟨hH.1, hH.2.1, ird_none _⟩
  clear c10 hH hH0
  obtain ⟨b0, hb0⟩ : ∃ b0, decide (x = y) = b0 := ⟨_, rfl⟩
  have hstr : (bytesI x == bytesI y) = b0 := by
    rw [← hb0]
    by_cases h : x = y
    · subst h; simp
    · rw [decide_eq_false h, beq_eq_false_iff_ne]
      exact fun e => h (bytesI_inj e)
  have c12b : ∀ W, BkS w A5 (4 * k) (bytesI x) none 0 [] W → Calls Tryd.prog 12 #[.slice A k c, .slice B k2 d] W fun e W' => e = .returned (.bool b0) ∧ BkS w A5 (4 * k) (bytesI x) none 0 [] W' := fun W h => by
    refine (same_any A k c x B k2 d y W (hR1.below h.1) (hS1.below h.1) (by omega) (by omega)).mono ?_
    rintro e W' ⟨rfl, hb⟩
    exact ⟨by rw [hb0], h.later hb⟩
  have c8 : ∀ W, BkS w A5 (4 * k) (bytesI x) none 0 [] W → Calls Tryd.prog 8 #[] W fun e W' => e = .returned (.bool true) ∧ BkS w A5 (4 * k) (bytesI x) none 0 [] W' := fun W h => by
    refine (awake_any W (hg.below h.1 hpos)).mono ?_
    rintro e W' ⟨rfl, hb⟩
    exact ⟨rfl, h.later hb⟩
  go_wp2
  refine wp_region_noPanic ?_
  refine wp_region_held_drew (S := BkS w A5 (4 * k) (bytesI x) none 0 []) (by kernel_rfl) hH6.drew (fun hH => ?_)
  refine wpAnyH_take (i := 0) (oi := { dst := some 43, op := Op.move (Operand.tmp 5), type := 36, pos := "law.go:85", after := #[], guard := none }) (v := .slice A5 (4 * k) c5) rfl (by kernel_rfl) (by kernel_rfl) (by kernel_rfl) (fun _ _ _ h => h) (Or.inl ⟨by rfl, fun w hw => by go_simp⟩) hH ?_
  try simp only [Act.put, List.setIfInBounds_toArray, List.set_cons_zero, List.set_cons_succ]
  refine wpAnyH_take (i := 1) (oi := { dst := some 44, op := Op.convert 36 9 (Operand.tmp 43), type := 9, pos := "law.go:85", after := #[{ on := 0, ground := Ground.data }], guard := none }) (v := .string ⟨(bytesI x).toArray⟩) rfl (by kernel_rfl) (by kernel_rfl) (by kernel_rfl) (fun _ _ _ h => h) (Or.inl ⟨by rfl, fun W hW => by have hcv := conv_rd (bytesI x) A5 (4 * k) c5 W hW.2.1; go_simp⟩) hH ?_
  try simp only [Act.put, List.setIfInBounds_toArray, List.set_cons_zero, List.set_cons_succ]
  refine wpAnyH_take (i := 2) (oi := { dst := some 45, op := Op.move (Operand.tmp 1), type := 23, pos := "law.go:85", after := #[], guard := none }) (v := .slice B k2 d) rfl (by kernel_rfl) (by kernel_rfl) (by kernel_rfl) (fun _ _ _ h => h) (Or.inl ⟨by rfl, fun w hw => by go_simp⟩) hH ?_
  try simp only [Act.put, List.setIfInBounds_toArray, List.set_cons_zero, List.set_cons_succ]
  refine wpAnyH_take (i := 6) (oi := { dst := some 49, op := Op.move (Operand.tmp 0), type := 23, pos := "law.go:85", after := #[], guard := none }) (v := .slice A k c) rfl (by kernel_rfl) (by kernel_rfl) (by kernel_rfl) (fun _ _ _ h => h) (Or.inl ⟨by rfl, fun w hw => by go_simp⟩) hH ?_
  try simp only [Act.put, List.setIfInBounds_toArray, List.set_cons_zero, List.set_cons_succ]
  refine wpAnyH_take (i := 7) (oi := { dst := some 50, op := Op.move (Operand.tmp 1), type := 23, pos := "law.go:85", after := #[], guard := none }) (v := .slice B k2 d) rfl (by kernel_rfl) (by kernel_rfl) (by kernel_rfl) (fun _ _ _ h => h) (Or.inl ⟨by rfl, fun w hw => by go_simp⟩) hH ?_
  try simp only [Act.put, List.setIfInBounds_toArray, List.set_cons_zero, List.set_cons_succ]
  refine wpAnyH_ready (rs := [3]) (by kernel_rfl) (by simp) ?_
  refine AllReadyH.cons (o := { dst := some 46, op := Op.call { callee := Callee.value (Operand.func 17), args := #[Operand.tmp 45], argTypes := #[23] }, type := 36, pos := "law.go:85", after := #[{ on := 2, ground := Ground.data }], guard := none }) rfl (fun K hK => ?_) AllReadyH.nil
  go_simp
  refine (encode_any B k2 d y _ (hS1.below hH.1) (by omega)).mono ?_
  rintro e W3 ⟨A7, c7, rfl, hE7, _, hb7⟩
  have hC := hH.later hb7
  go_wp2_with fail
  refine hK.out _ _ hC (fun hC2 => ?_)
  clear hK K hH hC2 hb7
  have hH := hC
  clear hC
  try simp only [Act.put, List.setIfInBounds_toArray, List.set_cons_zero, List.set_cons_succ]
  refine wpAnyH_ready (rs := [4, 8]) (by kernel_rfl) (by simp) ?_
  refine AllReadyH.cons (o := { dst := some 47, op := Op.convert 36 9 (Operand.tmp 46), type := 9, pos := "law.go:85", after := #[{ on := 3, ground := Ground.data }], guard := none }) rfl (fun K hK => ?_) (AllReadyH.cons (o := { dst := some 51, op := Op.call { callee := Callee.value (Operand.func 12), args := #[Operand.tmp 49, Operand.tmp 50], argTypes := #[23, 23] }, type := 4, pos := "law.go:85", after := #[{ on := 6, ground := Ground.data }, { on := 7, ground := Ground.data }, { on := 3, ground := Ground.chain }], guard := none }) rfl (fun K hK => ?_) AllReadyH.nil)
  · have hcv := conv_rd (bytesI y) A7 (4 * k2) c7 _ hE7
    go_simp
    clear hcv
    have hC := hH
    refine hK.out _ _ hC (fun hC2 => ?_)
    clear hK K hH hC2
    have hH := hC
    clear hC
    try simp only [Act.put, List.setIfInBounds_toArray, List.set_cons_zero, List.set_cons_succ]
    refine wpAnyH_take (i := 5) (oi := { dst := some 48, op := Op.binOp BinOp.eql 9 (Operand.tmp 44) (Operand.tmp 47) 9, type := 4, pos := "law.go:85", after := #[{ on := 1, ground := Ground.data }, { on := 4, ground := Ground.data }], guard := none }) (v := .bool b0) rfl (by kernel_rfl) (by kernel_rfl) (by kernel_rfl) (fun _ _ _ h => h) (Or.inl ⟨by rfl, fun w hw => by go_simp⟩) hH ?_
    try simp only [Act.put, List.setIfInBounds_toArray, List.set_cons_zero, List.set_cons_succ]
    refine wpAnyH_ready (rs := [8]) (by kernel_rfl) (by simp) ?_
    refine AllReadyH.cons (o := { dst := some 51, op := Op.call { callee := Callee.value (Operand.func 12), args := #[Operand.tmp 49, Operand.tmp 50], argTypes := #[23, 23] }, type := 4, pos := "law.go:85", after := #[{ on := 6, ground := Ground.data }, { on := 7, ground := Ground.data }, { on := 3, ground := Ground.chain }], guard := none }) rfl (fun K hK => ?_) AllReadyH.nil
    go_simp
    refine (c12b _ hH).mono ?_
    rintro e W4 ⟨rfl, hC⟩
    go_wp2_with fail
    refine hK.out _ _ hC (fun hC2 => ?_)
    clear hK K hH hC2
    have hH := hC
    clear hC
    try simp only [Act.put, List.setIfInBounds_toArray, List.set_cons_zero, List.set_cons_succ]
    refine wpAnyH_take (i := 9) (oi := { dst := some 52, op := Op.binOp BinOp.eql 4 (Operand.tmp 48) (Operand.tmp 51) 4, type := 4, pos := "law.go:85", after := #[{ on := 5, ground := Ground.data }, { on := 8, ground := Ground.data }], guard := none }) (v := .bool true) rfl (by kernel_rfl) (by kernel_rfl) (by kernel_rfl) (fun _ _ _ h => h) (Or.inl ⟨by rfl, fun w hw => by go_simp⟩) hH ?_
    try simp only [Act.put, List.setIfInBounds_toArray, List.set_cons_zero, List.set_cons_succ]
    refine wpAnyH_take (i := 10) (oi := { dst := some 53, op := Op.move (Operand.tmp 52), type := 4, pos := "law.go:85", after := #[{ on := 9, ground := Ground.data }, { on := 8, ground := Ground.chain }], guard := none }) (v := .bool true) rfl (by kernel_rfl) (by kernel_rfl) (by kernel_rfl) (fun _ _ _ h => h) (Or.inl ⟨by rfl, fun w hw => by go_simp⟩) hH ?_
    try simp only [Act.put, List.setIfInBounds_toArray, List.set_cons_zero, List.set_cons_succ]
    refine wpAnyH_ready (rs := [11]) (by kernel_rfl) (by simp) ?_
    refine AllReadyH.cons (o := { dst := some 54, op := Op.call { callee := Callee.value (Operand.func 8), args := #[], argTypes := #[] }, type := 4, pos := "law.go:85", after := #[{ on := 10, ground := Ground.chain }, { on := 10, ground := Ground.guard }], guard := some (10, true) }) rfl (fun K hK => ?_) AllReadyH.nil
    go_simp
    refine (c8 _ hH).mono ?_
    rintro e W5 ⟨rfl, hC⟩
    go_wp2_with fail
    refine hK.out _ _ hC (fun hC2 => ?_)
    clear hK K hH hC2
    have hH := hC
    clear hC
    try simp only [Act.put, List.setIfInBounds_toArray, List.set_cons_zero, List.set_cons_succ]
    refine wpAnyH_take (i := 12) (oi := { dst := some 55, op := Op.pick (Operand.tmp 53) (Operand.tmp 54) (Operand.const (Value.bool false)), type := 4, pos := "law.go:85", after := #[{ on := 10, ground := Ground.data }, { on := 11, ground := Ground.data }], guard := none }) (v := .bool true) rfl (by kernel_rfl) (by kernel_rfl) (by kernel_rfl) (fun _ _ _ h => h) (Or.inl ⟨by rfl, fun w hw => by go_simp⟩) hH ?_
    try simp only [Act.put, List.setIfInBounds_toArray, List.set_cons_zero, List.set_cons_succ]
    refine wpAnyH_take (i := 13) (oi := { dst := some 4, op := Op.assign (Operand.tmp 55), type := 4, pos := "law.go:85", after := #[{ on := 12, ground := Ground.data }, { on := 11, ground := Ground.chain }, { on := 0, ground := Ground.phase }, { on := 1, ground := Ground.phase }, { on := 2, ground := Ground.phase }, { on := 3, ground := Ground.phase }, { on := 4, ground := Ground.phase }, { on := 5, ground := Ground.phase }, { on := 6, ground := Ground.phase }, { on := 7, ground := Ground.phase }, { on := 8, ground := Ground.phase }, { on := 9, ground := Ground.phase }, { on := 10, ground := Ground.phase }, { on := 11, ground := Ground.phase }, { on := 12, ground := Ground.phase }], guard := none }) (v := .bool true) rfl (by kernel_rfl) (by kernel_rfl) (by kernel_rfl) (fun _ _ _ h => h) (Or.inl ⟨by rfl, fun w hw => by go_simp⟩) hH ?_
    try simp only [Act.put, List.setIfInBounds_toArray, List.set_cons_zero, List.set_cons_succ]
    refine wpAnyH_done (by kernel_rfl) ?_ _
    refine NoPanic.normal ?_
    go_wp2
    go_ret
    exact ⟨rfl, hH.1⟩
  · go_simp
    refine (same_any A k c x B k2 d y _ (hR1.below hH.1) (hS1.below hH.1) (by omega) (by omega)).mono ?_
    rintro e W4 ⟨rfl, hb4⟩
    rw [hb0]
    have hC := hH.later hb4
    replace hE7 := hE7.grown hb4
    go_wp2_with fail
    refine hK.out _ _ hC (fun hC2 => ?_)
    clear hK K hH hC2 hb4
    have hH := hC
    clear hC
    try simp only [Act.put, List.setIfInBounds_toArray, List.set_cons_zero, List.set_cons_succ]
    refine wpAnyH_ready (rs := [4]) (by kernel_rfl) (by simp) ?_
    refine AllReadyH.cons (o := { dst := some 47, op := Op.convert 36 9 (Operand.tmp 46), type := 9, pos := "law.go:85", after := #[{ on := 3, ground := Ground.data }], guard := none }) rfl (fun K hK => ?_) AllReadyH.nil
    have hcv := conv_rd (bytesI y) A7 (4 * k2) c7 _ hE7
    go_simp
    clear hcv
    have hC := hH
    refine hK.out _ _ hC (fun hC2 => ?_)
    clear hK K hH hC2
    have hH := hC
    clear hC
    try simp only [Act.put, List.setIfInBounds_toArray, List.set_cons_zero, List.set_cons_succ]
    refine wpAnyH_take (i := 5) (oi := { dst := some 48, op := Op.binOp BinOp.eql 9 (Operand.tmp 44) (Operand.tmp 47) 9, type := 4, pos := "law.go:85", after := #[{ on := 1, ground := Ground.data }, { on := 4, ground := Ground.data }], guard := none }) (v := .bool b0) rfl (by kernel_rfl) (by kernel_rfl) (by kernel_rfl) (fun _ _ _ h => h) (Or.inl ⟨by rfl, fun w hw => by go_simp⟩) hH ?_
    try simp only [Act.put, List.setIfInBounds_toArray, List.set_cons_zero, List.set_cons_succ]
    refine wpAnyH_take (i := 9) (oi := { dst := some 52, op := Op.binOp BinOp.eql 4 (Operand.tmp 48) (Operand.tmp 51) 4, type := 4, pos := "law.go:85", after := #[{ on := 5, ground := Ground.data }, { on := 8, ground := Ground.data }], guard := none }) (v := .bool true) rfl (by kernel_rfl) (by kernel_rfl) (by kernel_rfl) (fun _ _ _ h => h) (Or.inl ⟨by rfl, fun w hw => by go_simp⟩) hH ?_
    try simp only [Act.put, List.setIfInBounds_toArray, List.set_cons_zero, List.set_cons_succ]
    refine wpAnyH_take (i := 10) (oi := { dst := some 53, op := Op.move (Operand.tmp 52), type := 4, pos := "law.go:85", after := #[{ on := 9, ground := Ground.data }, { on := 8, ground := Ground.chain }], guard := none }) (v := .bool true) rfl (by kernel_rfl) (by kernel_rfl) (by kernel_rfl) (fun _ _ _ h => h) (Or.inl ⟨by rfl, fun w hw => by go_simp⟩) hH ?_
    try simp only [Act.put, List.setIfInBounds_toArray, List.set_cons_zero, List.set_cons_succ]
    refine wpAnyH_ready (rs := [11]) (by kernel_rfl) (by simp) ?_
    refine AllReadyH.cons (o := { dst := some 54, op := Op.call { callee := Callee.value (Operand.func 8), args := #[], argTypes := #[] }, type := 4, pos := "law.go:85", after := #[{ on := 10, ground := Ground.chain }, { on := 10, ground := Ground.guard }], guard := some (10, true) }) rfl (fun K hK => ?_) AllReadyH.nil
    go_simp
    refine (c8 _ hH).mono ?_
    rintro e W5 ⟨rfl, hC⟩
    go_wp2_with fail
    refine hK.out _ _ hC (fun hC2 => ?_)
    clear hK K hH hC2
    have hH := hC
    clear hC
    try simp only [Act.put, List.setIfInBounds_toArray, List.set_cons_zero, List.set_cons_succ]
    refine wpAnyH_take (i := 12) (oi := { dst := some 55, op := Op.pick (Operand.tmp 53) (Operand.tmp 54) (Operand.const (Value.bool false)), type := 4, pos := "law.go:85", after := #[{ on := 10, ground := Ground.data }, { on := 11, ground := Ground.data }], guard := none }) (v := .bool true) rfl (by kernel_rfl) (by kernel_rfl) (by kernel_rfl) (fun _ _ _ h => h) (Or.inl ⟨by rfl, fun w hw => by go_simp⟩) hH ?_
    try simp only [Act.put, List.setIfInBounds_toArray, List.set_cons_zero, List.set_cons_succ]
    refine wpAnyH_take (i := 13) (oi := { dst := some 4, op := Op.assign (Operand.tmp 55), type := 4, pos := "law.go:85", after := #[{ on := 12, ground := Ground.data }, { on := 11, ground := Ground.chain }, { on := 0, ground := Ground.phase }, { on := 1, ground := Ground.phase }, { on := 2, ground := Ground.phase }, { on := 3, ground := Ground.phase }, { on := 4, ground := Ground.phase }, { on := 5, ground := Ground.phase }, { on := 6, ground := Ground.phase }, { on := 7, ground := Ground.phase }, { on := 8, ground := Ground.phase }, { on := 9, ground := Ground.phase }, { on := 10, ground := Ground.phase }, { on := 11, ground := Ground.phase }, { on := 12, ground := Ground.phase }], guard := none }) (v := .bool true) rfl (by kernel_rfl) (by kernel_rfl) (by kernel_rfl) (fun _ _ _ h => h) (Or.inl ⟨by rfl, fun w hw => by go_simp⟩) hH ?_
    try simp only [Act.put, List.setIfInBounds_toArray, List.set_cons_zero, List.set_cons_succ]
    refine wpAnyH_done (by kernel_rfl) ?_ _
    refine NoPanic.normal ?_
    go_wp2
    go_ret
    exact ⟨rfl, hH.1⟩
open Classical in
theorem codeBack_walk (A : Option Addr) (n c : Nat) (l : List Ins) (B : Option Addr) (m d : Nat) (p : List Ins) (w : World) (hR : IRd w A n l) (hnc : n ≤ c) (hn : n ≤ 9223372036854775807) (hS : IRd w B m p) (hmd : m ≤ d) (hm : m ≤ 9223372036854775807) (hg : ET w) :
    Calls Tryd.prog 6 #[.slice A n c, .slice B m d] w fun e w' => e = .returned (.bool true) ∧ Below w.heap.size w w' := by
  cases h : chk (l.take 140) with
  | none => exact codeBack_ok A n c l B m d p w hR hnc hn hS hmd hm hg h
  | some z => exact codeBack_bad A n c l B m d p w hR hnc hn hS hmd hm hg z h
end Go.Proofs.YtdkhbnkhpebkkaaDoor
