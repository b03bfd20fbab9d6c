/-
  THE WALKS OF THE REFERENCE: nacelleref04.keys, block.
-/
import Derived.Test.YtljghknojbpccaaDoorRefW
namespace Go.Proofs.YtljghknojbpccaaDoor
set_option linter.unusedSimpArgs false
set_option linter.unusedVariables false
open Go.RowKit

def keysA : Array Value := (Sp.ks.map U32).toArray
set_option maxRecDepth 100000 in
set_option maxHeartbeats 1000000 in
theorem keys_any (w : World) : Calls Tryd.prog 26 #[] w fun e w' => e = .returned (.slice (some ⟨w.heap.size, 0, none⟩) 64 64) ∧ Blk w' w.heap.size 43 keysA ∧ Below w.heap.size w w' := by
  go_enter Tryd.func26, Tryd.ntmps26
  go_wp2
  go_ret
  exact ⟨rfl, Blk.at0 w 43 _ _ rfl, (Below.refl _ _).alloc (Nat.le_refl _) _⟩
theorem keysA_get (k : Nat) (h : k < 64) : keysA[k]? = some (U32 (Sp.ks.getD k 0)) := by
  have hl : Sp.ks.length = 64 := rfl
  simp [keysA, List.getD, List.getElem?_eq_getElem (show k < Sp.ks.length by omega)]

set_option maxRecDepth 100000 in
set_option maxHeartbeats 1000000 in
theorem block_any (st : Sp.S8) (A : Option Addr) (c : Nat) (bs : List UInt8) (w : World) (hR : Rd w A 64 bs) :
    Calls Tryd.prog 22 #[.agg (s8V st), .slice A 64 c] w fun e w' => e = .returned (.agg (s8V (Sp.compress st bs))) ∧ Below w.heap.size w w' := by
  have hb0 := ((Below.refl w.heap.size w).alloc (Nat.le_refl _) (.cells (s8V st) 44)).alloc (by simp) (.cells (Array.replicate 8 (.int .u32 0)) 44)
  have hst0 := (Blk.at0 w 44 _ (s8V st) rfl).alloc (.cells (Array.replicate 8 (.int .u32 0)) 44)
  have hres0 := Blk.at1 w (.cells (s8V st) 44) 44 (Array.replicate 8 (.int .u32 0)) _ rfl
  go_enter Tryd.func22, Tryd.ntmps22
  go_wp2_with fail
  refine (words_any A c bs _ (hR.grown hb0)).mono ?_
  rintro e w1 ⟨gw, cw, rfl, hown1, hb1⟩
  have hs1 := hb1.size
  rw [show ((w.alloc (.cells (s8V st) 44)).alloc (.cells (Array.replicate 8 (.int .u32 0)) 44)).heap.size = w.heap.size + 1 + 1 by simp] at hs1
  have hb01 := hb0.trans (hb1.mono (by simp; omega))
  have hst1 := hst0.below hb1 (by simp; omega)
  have hres1 := hres0.below hb1 (by simp)
  go_wp2_with fail
  refine (keys_any w1).mono ?_
  rintro e w2 ⟨rfl, hk2, hb2⟩
  have hb02 := hb01.trans (hb2.mono hb01.size)
  have hst2 := hst1.below hb2 hst1.lt
  have hres2 := hres1.below hb2 hres1.lt
  have hcw : ∀ j, j < 64 → w2.cell? ⟨gw, j, none⟩ = some (U32 ((Sp.wl bs 64).getD j 0)) := by
    intro j hj
    have h1 := hown1.cellAt j (by omega)
    have hwl := wl_length bs 64
    rw [show (List.map U32 (Sp.wl bs 64))[j]? = some (U32 ((Sp.wl bs 64).getD j 0)) by simp [List.getD, List.getElem?_eq_getElem (show j < (Sp.wl bs 64).length by omega)]] at h1
    exact (hb2.cell (block_lt_of_cell h1)).trans h1
  have hck : ∀ j, j < 64 → w2.cell? ⟨w1.heap.size, j, none⟩ = some (U32 (Sp.ks.getD j 0)) := fun j hj => (hk2.cell j).trans (keysA_get j hj)
  have a0 : w2.cell? ⟨w.heap.size, 0, none⟩ = some (U32 st.a) := hst2.cell 0
  have a1 : w2.cell? ⟨w.heap.size, 1, none⟩ = some (U32 st.b) := hst2.cell 1
  have a2 : w2.cell? ⟨w.heap.size, 2, none⟩ = some (U32 st.c) := hst2.cell 2
  have a3 : w2.cell? ⟨w.heap.size, 3, none⟩ = some (U32 st.d) := hst2.cell 3
  have a4 : w2.cell? ⟨w.heap.size, 4, none⟩ = some (U32 st.e) := hst2.cell 4
  have a5 : w2.cell? ⟨w.heap.size, 5, none⟩ = some (U32 st.f) := hst2.cell 5
  have a6 : w2.cell? ⟨w.heap.size, 6, none⟩ = some (U32 st.g) := hst2.cell 6
  have a7 : w2.cell? ⟨w.heap.size, 7, none⟩ = some (U32 st.h) := hst2.cell 7
  have Hcw := Lib.hid hcw
  have Hck := Lib.hid hck
  clear hb0 hst0 hres0 hb1 hs1 hown1 hb01 hst1 hres1 hk2 hb2 hcw hck
  go_wp2_with fail
  go_quiet (fail)
  obtain ⟨n1, rfl⟩ : ∃ n1 : Nat, n1 = nq := ⟨_, rfl⟩
  go_wp2_with fail
  go_loopw [7, 8, 9, 10, 11, 12, 13, 14, 15] (fun va vb vc vd ve vf vg vh i wr => ∃ k m : Nat, k ≤ 64 ∧ i = .int .i64 k ∧ wr = w2.drewN m ∧ va = U32 (Sp.rnds (Sp.wl bs 64) k st).a ∧ vb = U32 (Sp.rnds (Sp.wl bs 64) k st).b ∧ vc = U32 (Sp.rnds (Sp.wl bs 64) k st).c ∧ vd = U32 (Sp.rnds (Sp.wl bs 64) k st).d ∧ ve = U32 (Sp.rnds (Sp.wl bs 64) k st).e ∧ vf = U32 (Sp.rnds (Sp.wl bs 64) k st).f ∧ vg = U32 (Sp.rnds (Sp.wl bs 64) k st).g ∧ vh = U32 (Sp.rnds (Sp.wl bs 64) k st).h) (fun _ _ _ _ _ _ _ _ i _ => 64 - (intOf i).toNat)
  case atStart => exact ⟨0, n1, by omega, rfl, rfl, rfl, rfl, rfl, rfl, rfl, rfl, rfl, rfl⟩
  case round =>
    obtain ⟨k, m, hk, rfl, rfl, rfl, rfl, rfl, rfl, rfl, rfl, rfl, rfl⟩ := hrel
    by_cases hlt : k < 64
    · generalize hsk : Sp.rnds (Sp.wl bs 64) k st = s
      have Hsk := Lib.hid hsk
      clear hsk
      have ck := Hck.out k hlt
      have cww := Hcw.out k hlt
      go_wp2_with fail
      go_quiet ((first | (go_at_call_of 27 (Value.int .u64 6); exact quiet_add_left (turn6 _ _)) | (go_at_call_of 27 (Value.int .u64 11); exact quiet_add_left (turn11 _ _)) | (go_at_call_of 27 (Value.int .u64 25); exact quiet_add_left (turn25 _ _))))
      go_wp2_with fail
      refine (turn2 _ _).mono ?_; rintro e w' ⟨rfl, rfl⟩
      go_wp2_with fail
      refine (turn13 _ _).mono ?_; rintro e w' ⟨rfl, rfl⟩
      go_wp2_with fail
      refine (turn22 _ _).mono ?_; rintro e w' ⟨rfl, rfl⟩
      go_wp2_with fail
      have hn : Sp.rnds (Sp.wl bs 64) (k + 1) st = Sp.step s (Sp.ks.getD k 0) ((Sp.wl bs 64).getD k 0) := by rw [Sp.rnds, Hsk.out]
      go_roundw
      case rel => exact ⟨k + 1, _, by omega, by go_num, rfl, by rw [hn]; rfl, by rw [hn]; rfl, by rw [hn]; rfl, by rw [hn]; rfl, by rw [hn]; rfl, by rw [hn]; rfl, by rw [hn]; rfl, by rw [hn]; rfl⟩
      case measure => simp [intOf]; omega
    · obtain rfl : k = 64 := by omega
      clear hlt hk
      rw [show ((64 : Nat) : Int) = 64 from rfl]
      have hres3 := hres2.drewN m
      have hb3 := below_drewN hb02 m
      go_wp2_with (refine store44 rfl _ _ rfl (w.heap.size + 1) rfl (s8V (Sp.compress st bs)) rfl _ hres3 (by rfl) rfl (s8V_one _) ?_)
      exact bodyPost_ret (results_cell_row rfl _ _ (w.heap.size + 1) 44 _ (0, 0) _ rfl (hres3.setRow _) Tryd.underlying44 rfl info44) rfl ⟨rfl, below_setRow hb3 (by omega) _⟩
end Go.Proofs.YtljghknojbpccaaDoor
