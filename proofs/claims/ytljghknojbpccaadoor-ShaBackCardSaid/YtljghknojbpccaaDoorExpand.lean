/-
  THE WALK OF sha.expand: the sixty-four words of a block.
-/
import Derived.Test.YtljghknojbpccaaDoorRots
import Derived.Test.YtljghknojbpccaaDoorMem
import Derived.StillTailTactics
import Derived.BigRegion
namespace Go.Proofs.YtljghknojbpccaaDoor
set_option linter.unusedSimpArgs false
set_option linter.unusedVariables false
open Go.RowKit
theorem info59 : (Tryd.prog.info? 59).map (·.size) = some 64 := by kernel_rfl
theorem info47 : (Tryd.prog.info? 47).map (·.size) = some 64 := by kernel_rfl
theorem info44 : (Tryd.prog.info? 44).map (·.size) = some 8 := by kernel_rfl
theorem info24 : (Tryd.prog.info? 24).map (·.size) = some 32 := by kernel_rfl
theorem info49 : (Tryd.prog.info? 49).map (·.size) = some 73 := by kernel_rfl
def bytesV (l : List UInt8) : Array Value := (l.map U8).toArray
def rowW (ws : List UInt32) (n : Nat) : Array Value := (ws.map U32 ++ List.replicate n (Value.int .u32 0)).toArray

theorem conv8_32 (x : UInt8) (w : World) : (convert 5 43 (U8 x)).run Tryd.prog w = .ok (U32 x.toUInt32) w := by
  rw [run_convert_int (P := Tryd.prog) w 5 43 .u8 _ (by kernel_rfl) (by kernel_rfl)]
  show Result.ok (Value.int .u32 (IntKind.u32.wrap _)) w = _
  unfold U32 N32 N8
  rw [wrap_u32, UInt8.toNat_toUInt32]
  have := x.toNat_lt
  congr 2
  omega
attribute [go_sem high] conv8_32

theorem bytesV_size (l : List UInt8) : (bytesV l).size = l.length := by simp [bytesV]
theorem bytesV_one (l : List UInt8) : (bytesV l).all (·.oneCell') = true := by
  simp only [bytesV, List.all_toArray, List.all_eq_true, List.mem_map]
  rintro v ⟨x, _, rfl⟩; rfl
/-! a whole variable is loaded, stored: 'Blk' in, 'Blk' out -/
section
variable {ops : Array Oper} {rest : List Oper} {o : Oper} {a : Act} {w : World} {Q : Exit → Act → World → Prop}
theorem load44 (hgd : o.guard = none) (x : Operand) (ho : o.op = .load 44 x) (g : Nat) (hx : a.eval x = .pointer (some ⟨g, 0, none⟩)) (cs : Array Value) (hb : Blk w g 44 cs) (hs : cs.size = 8)
    (h : wpList Tryd.prog ops Q rest (a.put o.dst (.agg cs)) w) : wpList Tryd.prog ops Q (o :: rest) a w :=
  wpList_load_row hgd 44 x ho g hx 44 cs (0, 0) _ hb Tryd.underlying44 rfl (by rw [hs]; exact info44) h
theorem store44 (hgd : o.guard = none) (x y : Operand) (ho : o.op = .store 44 x y) (g : Nat) (hx : a.eval x = .pointer (some ⟨g, 0, none⟩)) (cs : Array Value) (hy : a.eval y = .agg cs) (old : Array Value) (hb : Blk w g 44 old) (hso : old.size = 8) (hs : cs.size = 8) (h1 : cs.all (·.oneCell') = true)
    (h : wpList Tryd.prog ops Q rest (a.put o.dst undef) (w.setRow g cs)) : wpList Tryd.prog ops Q (o :: rest) a w :=
  wpList_store_row hgd 44 x y ho g cs hx hy 44 old hb (by rw [hs]; exact info44) (by rw [hso, hs]) h1 h
theorem load47 (hgd : o.guard = none) (x : Operand) (ho : o.op = .load 47 x) (g : Nat) (hx : a.eval x = .pointer (some ⟨g, 0, none⟩)) (cs : Array Value) (hb : Blk w g 47 cs) (hs : cs.size = 64)
    (h : wpList Tryd.prog ops Q rest (a.put o.dst (.agg cs)) w) : wpList Tryd.prog ops Q (o :: rest) a w :=
  wpList_load_row hgd 47 x ho g hx 47 cs (0, 0) _ hb Tryd.underlying47 rfl (by rw [hs]; exact info47) h
theorem store47 (hgd : o.guard = none) (x y : Operand) (ho : o.op = .store 47 x y) (g : Nat) (hx : a.eval x = .pointer (some ⟨g, 0, none⟩)) (cs : Array Value) (hy : a.eval y = .agg cs) (old : Array Value) (hb : Blk w g 47 old) (hso : old.size = 64) (hs : cs.size = 64) (h1 : cs.all (·.oneCell') = true)
    (h : wpList Tryd.prog ops Q rest (a.put o.dst undef) (w.setRow g cs)) : wpList Tryd.prog ops Q (o :: rest) a w :=
  wpList_store_row hgd 47 x y ho g cs hx hy 47 old hb (by rw [hs]; exact info47) (by rw [hso, hs]) h1 h
theorem load49 (hgd : o.guard = none) (x : Operand) (ho : o.op = .load 49 x) (g : Nat) (hx : a.eval x = .pointer (some ⟨g, 0, none⟩)) (cs : Array Value) (hb : Blk w g 49 cs) (hs : cs.size = 73)
    (h : wpList Tryd.prog ops Q rest (a.put o.dst (.agg cs)) w) : wpList Tryd.prog ops Q (o :: rest) a w :=
  wpList_load_row hgd 49 x ho g hx 49 cs (0, 0) _ hb Tryd.underlying49 rfl (by rw [hs]; exact info49) h
theorem store49 (hgd : o.guard = none) (x y : Operand) (ho : o.op = .store 49 x y) (g : Nat) (hx : a.eval x = .pointer (some ⟨g, 0, none⟩)) (cs : Array Value) (hy : a.eval y = .agg cs) (old : Array Value) (hb : Blk w g 49 old) (hso : old.size = 73) (hs : cs.size = 73) (h1 : cs.all (·.oneCell') = true)
    (h : wpList Tryd.prog ops Q rest (a.put o.dst undef) (w.setRow g cs)) : wpList Tryd.prog ops Q (o :: rest) a w :=
  wpList_store_row hgd 49 x y ho g cs hx hy 49 old hb (by rw [hs]; exact info49) (by rw [hso, hs]) h1 h
theorem load24 (hgd : o.guard = none) (x : Operand) (ho : o.op = .load 24 x) (g : Nat) (hx : a.eval x = .pointer (some ⟨g, 0, none⟩)) (cs : Array Value) (hb : Blk w g 24 cs) (hs : cs.size = 32)
    (h : wpList Tryd.prog ops Q rest (a.put o.dst (.agg cs)) w) : wpList Tryd.prog ops Q (o :: rest) a w :=
  wpList_load_row hgd 24 x ho g hx 24 cs (0, 0) _ hb Tryd.underlying24 rfl (by rw [hs]; exact info24) h
theorem store24 (hgd : o.guard = none) (x y : Operand) (ho : o.op = .store 24 x y) (g : Nat) (hx : a.eval x = .pointer (some ⟨g, 0, none⟩)) (cs : Array Value) (hy : a.eval y = .agg cs) (old : Array Value) (hb : Blk w g 24 old) (hso : old.size = 32) (hs : cs.size = 32) (h1 : cs.all (·.oneCell') = true)
    (h : wpList Tryd.prog ops Q rest (a.put o.dst undef) (w.setRow g cs)) : wpList Tryd.prog ops Q (o :: rest) a w :=
  wpList_store_row hgd 24 x y ho g cs hx hy 24 old hb (by rw [hs]; exact info24) (by rw [hso, hs]) h1 h
theorem load59 (hgd : o.guard = none) (x : Operand) (ho : o.op = .load 59 x) (g : Nat) (hx : a.eval x = .pointer (some ⟨g, 0, none⟩)) (cs : Array Value) (hb : Blk w g 59 cs) (hs : cs.size = 64)
    (h : wpList Tryd.prog ops Q rest (a.put o.dst (.agg cs)) w) : wpList Tryd.prog ops Q (o :: rest) a w :=
  wpList_load_row hgd 59 x ho g hx 59 cs (0, 0) _ hb Tryd.underlying59 rfl (by rw [hs]; exact info59) h
theorem store59 (hgd : o.guard = none) (x y : Operand) (ho : o.op = .store 59 x y) (g : Nat) (hx : a.eval x = .pointer (some ⟨g, 0, none⟩)) (cs : Array Value) (hy : a.eval y = .agg cs) (old : Array Value) (hb : Blk w g 59 old) (hso : old.size = 64) (hs : cs.size = 64) (h1 : cs.all (·.oneCell') = true)
    (h : wpList Tryd.prog ops Q rest (a.put o.dst undef) (w.setRow g cs)) : wpList Tryd.prog ops Q (o :: rest) a w :=
  wpList_store_row hgd 59 x y ho g cs hx hy 59 old hb (by rw [hs]; exact info59) (by rw [hso, hs]) h1 h
end
theorem wl_length (b : List UInt8) : ∀ n, (Sp.wl b n).length = n
  | 0 => rfl
  | n + 1 => by simp [Sp.wl, wl_length b n]
/-- block[4*t:] of an array of 64 bytes behind a pointer -/
theorem slice47 (B k : Nat) (h : k < 16) (W : World) : (Instr.sliceAt 47 (Value.pointer (some ⟨B, 0, none⟩)) (some (.int .i64 (4 * (k : Int)))) none none).run Tryd.prog W = .ok (.slice (some ⟨B, 4 * k, none⟩) (64 - 4 * k) (64 - 4 * k)) W := by
  have h64 : Tryd.prog.arrayLen 47 = 64 := by kernel_rfl
  have e := run_sliceAt_array_l (P := Tryd.prog) W 47 ⟨B, 0, none⟩ (by kernel_rfl) .i64 (4 * (k : Int)) (by omega) (by rw [h64]; omega)
  have h5 : Tryd.prog.elem 47 = 5 := by kernel_rfl
  have hs : ∀ W : World, (sizeOf 5).run Tryd.prog W = .ok 1 W := fun _ => by kernel_rfl
  rw [e, h5, hs, h64]
  have et : (4 * (k : Int)).toNat = 4 * k := by omega
  simp only [Result.andThen_ok, slicedAt, et, Nat.mul_one]
  rw [if_neg (by omega)]
  simp [go_sem]

theorem row_get (b : List UInt8) (k j : Nat) (h : j < k) (n : Nat) : (rowW (Sp.wl b k) n)[j]? = some (U32 ((Sp.wl b k).getD j 0)) := by
  have hl := wl_length b k
  simp [rowW, List.getElem?_append, hl, h, List.getD, List.getElem?_eq_getElem (show j < (Sp.wl b k).length by omega)]
theorem row_new (b : List UInt8) (k n : Nat) (h : 0 < n) : (rowW (Sp.wl b k) n)[k]? = some (.int .u32 0) := by
  obtain ⟨m, rfl⟩ : ∃ m, n = m + 1 := ⟨n - 1, by omega⟩
  simp [rowW, wl_length, List.replicate_succ, List.getElem?_append]
theorem row_set (ws : List UInt32) (n : Nat) (x : UInt32) (h : 0 < n) : (rowW ws n).setIfInBounds ws.length (U32 x) = rowW (ws ++ [x]) (n - 1) := by
  obtain ⟨m, rfl⟩ : ∃ m, n = m + 1 := ⟨n - 1, by omega⟩
  simp [rowW, List.replicate_succ, List.set_append]

theorem rowW_size (ws : List UInt32) (n : Nat) : (rowW ws n).size = ws.length + n := by simp [rowW]
theorem rowW_one (ws : List UInt32) (n : Nat) : (rowW ws n).all (·.oneCell') = true := by
  simp only [rowW, List.all_toArray, List.all_append, Bool.and_eq_true, List.all_eq_true, List.mem_map, List.mem_replicate]
  refine ⟨?_, ?_⟩
  · rintro v ⟨x, _, rfl⟩; rfl
  · rintro v ⟨_, rfl⟩; rfl
theorem size59 (cs : Array Value) (h : cs.size = 64) : (Tryd.prog.info? 59).map (·.size) = some cs.size := by rw [h]; exact info59
/-- what holds at each round's head: the block, the words so far, nothing old has turned -/
structure ExpInv (w wr : World) (b : List UInt8) (k : Nat) : Prop where
  blk : Blk wr w.heap.size 47 (bytesV b)
  row : Blk wr (w.heap.size + 1 + 1) 59 (rowW (Sp.wl b k) (64 - k))
  res : Blk wr (w.heap.size + 1) 59 (rowW [] 64)
  below : Below w.heap.size w wr
theorem ExpInv.drew {w wr : World} {b : List UInt8} {k : Nat} (h : ExpInv w wr b k) : ExpInv w wr.drew b k := ⟨h.blk.drew, h.row.drew, h.res.drew, h.below.drew⟩
theorem ExpInv.drewN {w wr : World} {b : List UInt8} {k : Nat} (h : ExpInv w wr b k) (n : Nat) : ExpInv w (wr.drewN n) b k := ⟨h.blk.drewN n, h.row.drewN n, h.res.drewN n, below_drewN h.below n⟩
theorem ExpInv.next {w wr : World} {b : List UInt8} {k : Nat} (h : ExpInv w wr b k) (hk : k < 64) {x : UInt32} (hx : Sp.wl b (k + 1) = Sp.wl b k ++ [x]) :
    ExpInv w (wr.setCell ⟨w.heap.size + 1 + 1, k, none⟩ (U32 x)) b (k + 1) := by
  refine ⟨h.blk.far (by simp; omega) _, ?_, h.res.far (by simp) _, h.below.setCell (by simp; omega) _⟩
  have e := h.row.set_ k (U32 x)
  have hl := wl_length b k
  rw [show rowW (Sp.wl b (k + 1)) (64 - (k + 1)) = (rowW (Sp.wl b k) (64 - k)).setIfInBounds k (U32 x) from by
    have := row_set (Sp.wl b k) (64 - k) x (by omega)
    rw [hl] at this
    rw [this, hx, Nat.sub_sub]]
  exact e
theorem wl_first (b : List UInt8) (k : Nat) (h : k < 16) : Sp.wl b (k + 1) = Sp.wl b k ++ [Sp.word b k] := by simp [Sp.wl, h]
theorem wl_later (b : List UInt8) (k : Nat) (h : ¬ k < 16) : Sp.wl b (k + 1) = Sp.wl b k ++ [Sp.nextW (Sp.wl b k) k] := by simp [Sp.wl, h]

set_option maxRecDepth 100000 in
set_option maxHeartbeats 400000 in
theorem expand_any (b : List UInt8) (hb : b.length = 64) (w : World) : Calls Tryd.prog 28 #[.agg (bytesV b)] w fun e w' => e = .returned (.agg (rowW (Sp.wl b 64) 0)) ∧ Below w.heap.size w w' := by
  go_enter Tryd.func28, Tryd.ntmps28
  go_wp2
  go_loopw [11] (fun i wr => ∃ k : Nat, k ≤ 16 ∧ i = .int .i64 k ∧ ExpInv w wr b k) (fun i _ => 16 - (intOf i).toNat)
  case atStart => 
    refine ⟨0, by omega, rfl, ?_, ?_, ?_, ?_⟩
    · exact ((Blk.new w 47 (bytesV b)).alloc _).alloc _
    · exact Blk.at2 w _ _ 59 _ _ rfl
    · exact (Blk.at1 w _ 59 _ _ rfl).alloc _
    · exact (((Below.refl _ _).alloc (Nat.le_refl _) _).alloc (by simp) _).alloc (by simp; omega) _
  case round =>
    obtain ⟨k, hk, rfl, hinv⟩ := hrel
    by_cases hlt : k < 16
    · have hc : ∀ j, j < 4 → wr.cell? ⟨w.heap.size, 4 * k + j, none⟩ = some (U8 (b.getD (4 * k + j) 0)) := by
        intro j hj
        rw [hinv.blk.cell]
        simp [bytesV, List.getD, List.getElem?_eq_getElem (show 4 * k + j < b.length by omega)]
      have c0 : wr.cell? ⟨w.heap.size, 4 * k, none⟩ = some (U8 (b.getD (4 * k) 0)) := hc 0 (by omega)
      have c1 := hc 1 (by omega)
      have c2 := hc 2 (by omega)
      have c3 := hc 3 (by omega)
      have cw : wr.cell? ⟨w.heap.size + 1 + 1, k, none⟩ = some (.int .u32 0) := by
        rw [hinv.row.cell]
        exact row_new b k _ (by omega)
      have fw := hinv.row.frozen k
      clear hc
      have hs := fun W => slice47 w.heap.size k hlt W
      go_wp2
      go_region
      go_wp2
      go_roundw
      case rel => exact ⟨k + 1, by omega, by go_num, (hinv.next (by omega) (wl_first b k hlt)).drew⟩
      case measure => simp [intOf]; omega
    · obtain rfl : k = 16 := by omega
      clear hlt hk
      rw [show ((16 : Nat) : Int) = 16 from rfl]
      go_wp2
      go_loopw [6] (fun i wr => ∃ k : Nat, 16 ≤ k ∧ k ≤ 64 ∧ i = .int .i64 k ∧ ExpInv w wr b k) (fun i _ => 64 - (intOf i).toNat)
      case atStart => exact ⟨16, by omega, by omega, rfl, hinv⟩
      case round =>
        obtain ⟨k, hk1, hk2, rfl, hinv⟩ := hrel
        by_cases hlt : k < 64
        · have hc : ∀ j, j < k → wr.cell? ⟨w.heap.size + 1 + 1, j, none⟩ = some (U32 ((Sp.wl b k).getD j 0)) := by
            intro j hj
            rw [hinv.row.cell]
            exact row_get b k j hj _
          have c0 := hc (k - 15) (by omega)
          have c1 := hc (k - 2) (by omega)
          have c2 := hc (k - 7) (by omega)
          have c3 := hc (k - 16) (by omega)
          have cw : wr.cell? ⟨w.heap.size + 1 + 1, k, none⟩ = some (.int .u32 0) := by
            rw [hinv.row.cell]
            exact row_new b k _ (by omega)
          have fw := hinv.row.frozen k
          clear hc
          go_wp2
          go_quiet (fail)
          go_wp2_with fail
          refine (rotate7 _ _).mono ?_; rintro e w' ⟨rfl, rfl⟩
          go_wp2_with fail
          refine (rotate18 _ _).mono ?_; rintro e w' ⟨rfl, rfl⟩
          go_wp2_with fail
          refine (rotate17 _ _).mono ?_; rintro e w' ⟨rfl, rfl⟩
          go_wp2_with fail
          refine (rotate19 _ _).mono ?_; rintro e w' ⟨rfl, rfl⟩
          go_wp2_with fail
          go_region
          go_wp2
          go_roundw
          case rel => exact ⟨k + 1, by omega, by omega, by go_num, (hinv.drewN _).next (by omega) (wl_later b k (by omega))⟩
          case measure => simp [intOf]; omega
        · obtain rfl : k = 64 := by omega
          clear hlt hk1 hk2
          have hrow := hinv.row
          have hres := hinv.res
          have hb := hinv.below
          rw [show ((64 : Nat) : Int) = 64 from rfl]
          go_wp2_with (first | (refine wpList_load_row rfl 59 _ rfl (w.heap.size + 1 + 1) rfl 59 (rowW (Sp.wl b 64) 0) (0, 0) _ hrow Tryd.underlying59 rfl ?ci ?_) | (refine wpList_store_row rfl 59 _ _ rfl (w.heap.size + 1) (rowW (Sp.wl b 64) 0) rfl rfl 59 _ hres ?ci2 ?ho ?h1 ?_))
          case ci => exact size59 _ (by rw [rowW_size, wl_length])
          case ci2 => exact size59 _ (by rw [rowW_size, wl_length])
          case ho => rw [rowW_size, rowW_size, wl_length]; rfl
          case h1 => exact rowW_one _ _
          exact bodyPost_ret (results_cell_row rfl _ _ (w.heap.size + 1) 59 _ (0, 0) _ rfl (hres.setRow _) Tryd.underlying59 rfl (size59 _ (by rw [rowW_size, wl_length]))) rfl ⟨rfl, below_setRow hb (by omega) _⟩
end Go.Proofs.YtljghknojbpccaaDoor
