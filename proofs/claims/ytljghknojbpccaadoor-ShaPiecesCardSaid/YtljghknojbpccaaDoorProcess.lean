/-
  THE WALK OF sha.process: the state behind a block.
-/
import Derived.Test.YtljghknojbpccaaDoorExpand
import Derived.Lib.Hide
import Derived.Deep.RegionWith
import Derived.Deep.LoopGhost
import Derived.Deep.DeepCutAuto
import Derived.Deep.DeepMust
import Derived.Deep.DeepFit
namespace Go.Proofs.YtljghknojbpccaaDoor
set_option linter.unusedSimpArgs false
set_option linter.unusedVariables false
open Go.RowKit
def s8V (s : Sp.S8) : Array Value := #[U32 s.a, U32 s.b, U32 s.c, U32 s.d, U32 s.e, U32 s.f, U32 s.g, U32 s.h]

theorem s8V_one (s : Sp.S8) : (s8V s).all (·.oneCell') = true := by kernel_rfl
/-- what the two tables hold -/
structure Tables (w : World) : Prop where
  init : ∀ j v, (s8V Sp.init)[j]? = some v → w.cell? ⟨0, j, none⟩ = some v
  ks : ∀ j, j < 64 → w.cell? ⟨1, j, none⟩ = some (U32 (Sp.ks.getD j 0))
theorem Tables.size {w : World} (h : Tables w) : 2 ≤ w.heap.size := by
  have := block_lt_of_cell (h.ks 0 (by omega))
  simp at this
  omega
theorem Tables.below {w w' : World} (h : Tables w) {B : Nat} (hb : Below B w w') (hB : 2 ≤ B) : Tables w' :=
  ⟨fun j v hj => (hb.cell (p := ⟨0, j, none⟩) (by simp; omega)).trans (h.init j v hj), fun j hj => (hb.cell (p := ⟨1, j, none⟩) (by simp; omega)).trans (h.ks j hj)⟩

/-- what holds at each round's head of process -/
structure ProcInv (w w1 wr : World) (st s : Sp.S8) (ws : List UInt32) : Prop where
  st : Blk wr w.heap.size 44 (s8V st)
  res : Blk wr (w.heap.size + 1 + 1) 44 (Array.replicate 8 (.int .u32 0))
  ws : Blk wr w1.heap.size 59 (rowW ws 0)
  s : Blk wr (w1.heap.size + 1) 44 (s8V s)
  below : Below w.heap.size w wr
  lt : w.heap.size + 1 + 1 < w1.heap.size

theorem ProcInv.drewN {w w1 wr : World} {st s : Sp.S8} {ws : List UInt32} (h : ProcInv w w1 wr st s ws) (n : Nat) : ProcInv w w1 (wr.drewN n) st s ws :=
  ⟨h.st.drewN n, h.res.drewN n, h.ws.drewN n, h.s.drewN n, below_drewN h.below n, h.lt⟩
theorem ProcInv.next {w w1 wr : World} {st s : Sp.S8} {ws : List UInt32} (h : ProcInv w w1 wr st s ws) (s' s'' : Sp.S8) (e : s'' = s') : ProcInv w w1 (wr.setRow (w1.heap.size + 1) (s8V s')) st s'' ws := by
  subst e
  have := h.lt
  exact ⟨h.st.setRow_far (by omega) _, h.res.setRow_far (by omega) _, h.ws.setRow_far (by omega) _, h.s.setRow _, below_setRow h.below (by omega) _, h.lt⟩

/-- the state while the rounds' state is added to it: the first k words are done -/
def addL (st s : Sp.S8) (k : Nat) : List UInt32 := (List.zipWith (· + ·) st.list s.list).take k ++ st.list.drop k
def addA (st s : Sp.S8) (k : Nat) : Array Value := ((addL st s k).map U32).toArray
theorem lt8 {k : Nat} (h : k < 8) : k = 0 ∨ k = 1 ∨ k = 2 ∨ k = 3 ∨ k = 4 ∨ k = 5 ∨ k = 6 ∨ k = 7 := by omega
theorem addA_get (st s : Sp.S8) (k : Nat) (h : k < 8) : (addA st s k)[k]? = some (U32 (st.list.getD k 0)) := by
  rcases lt8 h with rfl | rfl | rfl | rfl | rfl | rfl | rfl | rfl <;> rfl
theorem s8V_get (s : Sp.S8) (k : Nat) (h : k < 8) : (s8V s)[k]? = some (U32 (s.list.getD k 0)) := by
  rcases lt8 h with rfl | rfl | rfl | rfl | rfl | rfl | rfl | rfl <;> rfl
theorem addA_set (st s : Sp.S8) (k : Nat) (h : k < 8) : (addA st s k).setIfInBounds k (U32 (st.list.getD k 0 + s.list.getD k 0)) = addA st s (k + 1) := by
  rcases lt8 h with rfl | rfl | rfl | rfl | rfl | rfl | rfl | rfl <;> rfl
theorem addA_start (st s : Sp.S8) : s8V st = addA st s 0 := rfl
theorem addA_end (st s : Sp.S8) : addA st s 8 = s8V (st.add s) := rfl
structure AddInv (w w1 wr : World) (st s : Sp.S8) (k : Nat) : Prop where
  st : Blk wr w.heap.size 44 (addA st s k)
  res : Blk wr (w.heap.size + 1 + 1) 44 (Array.replicate 8 (.int .u32 0))
  s : Blk wr (w1.heap.size + 1) 44 (s8V s)
  below : Below w.heap.size w wr
  lt : w.heap.size + 1 + 1 < w1.heap.size
theorem AddInv.next {w w1 wr : World} {st s : Sp.S8} {k : Nat} (h : AddInv w w1 wr st s k) (hk : k < 8) : AddInv w w1 (wr.setCell ⟨w.heap.size, k, none⟩ (U32 (st.list.getD k 0 + s.list.getD k 0))).drew st s (k + 1) := by
  have := h.lt
  refine ⟨?_, (h.res.far (by simp; omega) _).drew, (h.s.far (by simp; omega) _).drew, (h.below.setCell (by simp) _).drew, h.lt⟩
  rw [← addA_set st s k hk]
  exact (h.st.set_ _ _).drew

set_option maxRecDepth 100000 in
set_option maxHeartbeats 1000000 in
theorem process_any (st : Sp.S8) (b : List UInt8) (hb : b.length = 64) (w : World) (ht : Tables w) : Calls Tryd.prog 23 #[.agg (s8V st), .agg (bytesV b)] w fun e w' => e = .returned (.agg (s8V (Sp.compress st b))) ∧ Below w.heap.size w w' := by
  have hs2 := ht.size
  go_enter Tryd.func23, Tryd.ntmps23
  have hb0 := bytesV_size b
  have HB := Blk.at1 w (.cells (s8V st) 44) 47 _ (bytesV b) rfl
  have HS0 := Blk.at0 w 44 _ (s8V st) rfl
  go_wp2_with (first
    | (refine load47 rfl _ rfl (w.heap.size + 1) rfl (bytesV b) (HB.alloc _) (hb0.trans hb) ?_)
    | (go_at_call 28; refine (expand_any b hb _).mono ?_; rintro e w1 ⟨rfl, hb1⟩; have hz := hb1.size; have HS1 := ((HS0.alloc _).alloc _).below hb1 (by simp; omega))
    | (refine store59 rfl _ _ rfl w1.heap.size rfl (rowW (Sp.wl b 64) 0) rfl (rowW [] 64) (Blk.at0 w1 59 _ _ rfl) rfl (by rw [rowW_size, wl_length]) (rowW_one _ _) ?_)
    | (refine load44 rfl _ rfl w.heap.size rfl (s8V st) ((HS1.alloc _).setRow_far (by have := HS1.lt; omega) _) rfl ?_)
    | (refine store44 rfl _ _ rfl (w1.heap.size + 1) rfl (s8V st) rfl (Array.replicate 8 (.int .u32 0)) (Blk.new_at _ 44 _ _ rfl _ (by simp)) rfl rfl (s8V_one st) ?_))
  have hz' : w.heap.size + 1 + 1 < w1.heap.size := by simp at hz; omega
  have HR1 : Blk w1 (w.heap.size + 1 + 1) 44 (Array.replicate 8 (.int .u32 0)) := (Blk.at2 w _ _ 44 _ _ rfl).below hb1 (by simp)
  have HB1 : Below w.heap.size w w1 := (((Below.refl _ _).alloc (Nat.le_refl _) _).alloc (by simp) _ |>.alloc (by simp; omega) _).trans (hb1.mono (by simp; omega))
  clear HB HS0 hb0
  go_loopw [20] (fun i wr => ∃ k : Nat, k ≤ 64 ∧ i = .int .i64 k ∧ ProcInv w w1 wr st (Sp.rnds (Sp.wl b 64) k st) (Sp.wl b 64)) (fun i _ => 64 - (intOf i).toNat)
  case atStart =>
    refine ⟨0, by omega, rfl, ?_, ?_, ?_, ?_, ?_, hz'⟩
    · exact ((HS1.alloc _).setRow_far (by omega) _).alloc _ |>.setRow_far (by omega) _
    · exact ((HR1.alloc _).setRow_far (by omega) _).alloc _ |>.setRow_far (by omega) _
    · exact ((Blk.at0 w1 59 _ (rowW [] 64) rfl).setRow _).alloc _ |>.setRow_far (by omega) _
    · exact (Blk.new_at _ 44 _ _ rfl _ (by simp)).setRow _
    · exact below_setRow ((below_setRow (HB1.alloc (by omega) _) (by omega) _).alloc (by simp; omega) _) (by omega) _
  case round =>
    obtain ⟨k, hk, rfl, hinv⟩ := hrel
    have htr := ht.below hinv.below hs2
    by_cases hlt : k < 64
    · have hs := hinv.s
      generalize hsk : Sp.rnds (Sp.wl b 64) k st = s at hinv hs
      have Hsk := Lib.hid hsk
      clear hsk
      have c0 : wr.cell? ⟨w1.heap.size + 1, 0, none⟩ = some (U32 s.a) := hs.cell 0
      have c1 : wr.cell? ⟨w1.heap.size + 1, 1, none⟩ = some (U32 s.b) := hs.cell 1
      have c2 : wr.cell? ⟨w1.heap.size + 1, 2, none⟩ = some (U32 s.c) := hs.cell 2
      have c3 : wr.cell? ⟨w1.heap.size + 1, 3, none⟩ = some (U32 s.d) := hs.cell 3
      have c4 : wr.cell? ⟨w1.heap.size + 1, 4, none⟩ = some (U32 s.e) := hs.cell 4
      have c5 : wr.cell? ⟨w1.heap.size + 1, 5, none⟩ = some (U32 s.f) := hs.cell 5
      have c6 : wr.cell? ⟨w1.heap.size + 1, 6, none⟩ = some (U32 s.g) := hs.cell 6
      have c7 : wr.cell? ⟨w1.heap.size + 1, 7, none⟩ = some (U32 s.h) := hs.cell 7
      have ck := htr.ks k hlt
      have cw : wr.cell? ⟨w1.heap.size, k, none⟩ = some (U32 ((Sp.wl b 64).getD k 0)) := by
        rw [hinv.ws.cell]
        exact row_get b 64 k hlt _
      go_wp2
      go_quiet (fail)
      go_wp2_with fail
      go_quiet ((first | (go_at_call_of 29 (Value.int .i64 6); exact quiet_add_left (rotate6 _ _)) | (go_at_call_of 29 (Value.int .i64 11); exact quiet_add_left (rotate11 _ _)) | (go_at_call_of 29 (Value.int .i64 25); exact quiet_add_left (rotate25 _ _))))
      go_wp2_with fail
      refine (rotate2 _ _).mono ?_; rintro e w' ⟨rfl, rfl⟩
      go_wp2_with fail
      refine (rotate13 _ _).mono ?_; rintro e w' ⟨rfl, rfl⟩
      go_wp2_with fail
      refine (rotate22 _ _).mono ?_; rintro e w' ⟨rfl, rfl⟩
      go_wp2_with (refine store44 rfl _ _ rfl (w1.heap.size + 1) rfl (s8V (Sp.step s (Sp.ks.getD k 0) ((Sp.wl b 64).getD k 0))) rfl (s8V s) (hs.drewN _) rfl rfl (s8V_one _) ?_)
      go_roundw
      case rel => exact ⟨k + 1, by omega, by go_num, (hinv.drewN _).next _ _ (by rw [Sp.rnds, Hsk.out]; rfl)⟩
      case measure => simp [intOf]; omega
    · obtain rfl : k = 64 := by omega
      clear hlt hk
      rw [show ((64 : Nat) : Int) = 64 from rfl]
      go_wp2
      go_loopw [98] (fun i wr => ∃ k : Nat, k ≤ 8 ∧ i = .int .i64 k ∧ AddInv w w1 wr st (Sp.rnds (Sp.wl b 64) 64 st) k) (fun i _ => 8 - (intOf i).toNat)
      case atStart => exact ⟨0, by omega, rfl, hinv.st, hinv.res, hinv.s, hinv.below, hinv.lt⟩
      case round =>
        obtain ⟨k, hk, rfl, hadd⟩ := hrel
        by_cases hlt : k < 8
        · have ca : wr.cell? ⟨w.heap.size, k, none⟩ = some (U32 (st.list.getD k 0)) := (hadd.st.cell k).trans (addA_get _ _ k hlt)
          have cb : wr.cell? ⟨w1.heap.size + 1, k, none⟩ = some (U32 ((Sp.rnds (Sp.wl b 64) 64 st).list.getD k 0)) := (hadd.s.cell k).trans (s8V_get _ k hlt)
          have fa := hadd.st.frozen k
          go_wp2
          go_region
          go_wp2
          go_roundw
          case rel => exact ⟨k + 1, by omega, by go_num, hadd.next hlt⟩
          case measure => simp [intOf]; omega
        · obtain rfl : k = 8 := by omega
          clear hlt hk
          rw [show ((8 : Nat) : Int) = 8 from rfl]
          have hst := hadd.st
          have hres := hadd.res
          have hb' := hadd.below
          go_wp2_with (first
            | (refine load44 rfl _ rfl w.heap.size rfl _ hst rfl ?_)
            | (refine store44 rfl _ _ rfl (w.heap.size + 1 + 1) rfl (s8V (Sp.compress st b)) rfl _ hres rfl rfl (s8V_one _) ?_))
          exact bodyPost_ret (results_cell_row rfl _ _ (w.heap.size + 1 + 1) 44 _ (0, 0) _ rfl (hres.setRow _) Tryd.underlying44 rfl info44) rfl ⟨rfl, below_setRow hb' (by omega) _⟩
end Go.Proofs.YtljghknojbpccaaDoor
