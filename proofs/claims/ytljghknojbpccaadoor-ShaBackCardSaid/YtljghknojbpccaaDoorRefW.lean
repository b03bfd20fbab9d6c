/-
  THE WALKS OF THE REFERENCE: nacelleref04.words, keys.
-/
import Derived.Test.YtljghknojbpccaaDoorSum
import Derived.Test.YtljghknojbpccaaDoorBytes
namespace Go.Proofs.YtljghknojbpccaaDoor
set_option linter.unusedSimpArgs false
set_option linter.unusedVariables false
open Go.RowKit

@[go_sem high] theorem mul256 (t : TypeId) (x : UInt32) : binOp .mul t (U32 x) (.int .u32 256) = pure (U32 (x * 256)) := by
  unfold U32 N32
  rw [binOp_mul]
  show pure (Value.int .u32 (IntKind.u32.wrap _)) = _
  congr 2
theorem info43 : (Tryd.prog.info? 43).map (fun i => (i.zero, i.size, i.bytes)) = some (some (.int .u32 0), 1, 4) := by kernel_rfl
theorem U32_one (l : List UInt32) : ∀ u ∈ l.map U32, u.oneCell' = true := by
  intro v hv
  obtain ⟨x, _, rfl⟩ := List.mem_map.1 hv
  rfl
/-- a block of one word that was laid just now -/
theorem reads_one (W : World) (x : UInt32) (t : TypeId) : Reads (W.alloc (.cells #[U32 x] t)) (W.heap.size + 1) 1 (some ⟨W.heap.size, 0, none⟩) 1 [U32 x] :=
  ⟨rfl, fun _ => ⟨_, rfl, by simp, fun j u hu => by
    rw [Addr.add_lit, Nat.zero_add, (Blk.new W t #[U32 x]).cell j]
    simpa using hu⟩⟩

theorem own_below {w wo w1 : World} {n : Nat} {e : TypeId} {v : Value} {xs : List Value} (hown : wo.ownsRow w.heap.size e 1 v n xs) (hbel : Below w.heap.size w wo) (o : Obj) (hg : (wo.alloc o).grownBy w1 v.ownBlock) : Below w.heap.size w w1 :=
  (hbel.alloc hbel.size o).grown hg (by have := hbel.size; simp; omega) (fun k hk => (hown.lt k hk).1)
theorem ownsRow_heap {w w' : World} {base n : Nat} {e : TypeId} {v : Value} {xs : List Value} (h : w.ownsRow base e 1 v n xs) (he : w'.heap = w.heap) : w'.ownsRow base e 1 v n xs := by
  unfold World.ownsRow at *
  rw [he]
  exact h
theorem Reads_heap {w w' : World} {B n : Nat} {A : Option Addr} {xs : List Value} (h : Reads w B 1 A n xs) (he : w'.heap = w.heap) : Reads w' B 1 A n xs :=
  h.keep fun p _ => World.cell?_of_block (by rw [he])
/-- the answer of words -/
def WordsRet (w : World) (ws : List UInt32) (n : Nat) (e : Ending) (w' : World) : Prop :=
  ∃ g cap, e = .returned (.slice (some ⟨g, 0, none⟩) n cap) ∧ w'.ownsRow w.heap.size 43 1 (.slice (some ⟨g, 0, none⟩) n cap) n (ws.map U32) ∧ Below w.heap.size w w'

set_option maxRecDepth 100000 in
set_option maxHeartbeats 1000000 in
theorem words_any (A : Option Addr) (c : Nat) (bs : List UInt8) (w : World) (hR : Rd w A 64 bs) : Calls Tryd.prog 25 #[.slice A 64 c] w (WordsRet w (Sp.wl bs 64) 64) := by
  obtain ⟨ad, rfl, hcell⟩ := hR.cells (by omega)
  have hl : 64 ≤ bs.length := by have := hR.len; omega
  obtain ⟨i0, hi0, hz0, hz1, hz2⟩ := info_parts info43
  go_enter Tryd.func25, Tryd.ntmps25
  go_wp2_with fail
  go_loopw [3, 4] (fun v i wr => ∃ k : Nat, k ≤ 16 ∧ i = .int .i64 k ∧ wr.ownsRow w.heap.size 43 1 v k ((Sp.wl bs k).map U32) ∧ Below w.heap.size w wr) (fun _ i _ => 16 - (intOf i).toNat)
  case atStart => exact ⟨0, by omega, rfl, World.ownsRow_nil _ _ _ _, Below.refl _ _⟩
  case round =>
    obtain ⟨k, hk, rfl, hown, hbel⟩ := hrel
    by_cases hlt : k < 16
    · obtain ⟨wo, rfl⟩ : ∃ wo : World, wo = wr := ⟨_, rfl⟩
      go_wp2_with fail
      go_loop [5, 6] (fun x i => ∃ j : Nat, j ≤ 4 ∧ i = .int .i64 j ∧ x = U32 (Sp.wordN bs k j)) (fun _ i => 4 - (intOf i).toNat)
      case atStart => exact ⟨0, by omega, rfl, rfl⟩
      case round =>
        obtain ⟨j, hj, rfl, rfl⟩ := hrel
        by_cases hlj : j < 4
        · have hc1 : wo.cell? (ad.add (4 * k + j)) = some (U8 (bs.getD (4 * k + j) 0)) := by
            have h1 := hcell (4 * k + j) (U8 (bs.getD (4 * k + j) 0)) (by simp [List.getD, List.getElem?_eq_getElem (show 4 * k + j < bs.length by omega)])
            exact (hbel.cell (block_lt_of_cell h1)).trans h1
          have hltn : 4 * k + j < 64 := by omega
          go_wp2
          go_round
          case rel => exact ⟨j + 1, by omega, by go_num, rfl⟩
          case measure => simp [intOf]; omega
        · obtain rfl : j = 4 := by omega
          rw [Sp.wordN_four]
          rw [show ((4 : Nat) : Int) = 4 from rfl]
          go_wp2_with (at_builtin; refine wpList_append_any _ rfl (.tmp 29) (.tmp 31) 55 rfl w.heap.size 43 i0 _ 1 4 Tryd.underlying55 hi0 hz0 hz1 hz2 rfl (by omega) u3 k _ rfl (hown.alloc _) _ _ 1 1 [U32 (Sp.word bs k)] rfl (reads_one _ _ _) (U32_one [_]) (by simp only [maxLen]; omega) (by omega) (by have := hbel.size; simp; omega) ?_; intro v1 w1 hown1 hg1 hat1)
          have hbel1 := own_below hown hbel _ hg1
          rw [show Sp.wl bs k = Sp.wl bs k from rfl] at hown1
          clear hg1 hat1
          go_roundw
          case rel => exact ⟨k + 1, by omega, by go_num, by rw [wl_first bs k hlt, List.map_append]; exact hown1, hbel1⟩
          case measure => simp [intOf]; omega
    · obtain rfl : k = 16 := by omega
      clear hlt hk
      rw [show ((16 : Nat) : Int) = 16 from rfl]
      obtain ⟨g, cap, hv, hg, hgl⟩ := hown.form (by omega)
      rw [hv] at hown
      rw [hv]
      go_wp2_with fail
      go_loopw [3, 7] (fun v i wr => ∃ k g cap : Nat, 16 ≤ k ∧ k ≤ 64 ∧ i = .int .i64 k ∧ v = .slice (some ⟨g, 0, none⟩) k cap ∧ wr.ownsRow w.heap.size 43 1 (.slice (some ⟨g, 0, none⟩) k cap) k ((Sp.wl bs k).map U32) ∧ Below w.heap.size w wr) (fun _ i _ => 64 - (intOf i).toNat)
      case atStart => exact ⟨16, g, cap, by omega, by omega, rfl, rfl, hown, hbel⟩
      case round =>
        obtain ⟨k, g, cap, hk1, hk2, rfl, rfl, hown, hbel⟩ := hrel
        by_cases hlt : k < 64
        · have hc : ∀ j, j < k → wr.cell? ⟨g, j, none⟩ = some (U32 ((Sp.wl bs k).getD j 0)) := by
            intro j hj
            rw [hown.cellAt j (by omega)]
            have hwl := wl_length bs k
            simp [List.getD, List.getElem?_eq_getElem (show j < (Sp.wl bs k).length by omega)]
          have c0 := hc (k - 15) (by omega)
          have c1 := hc (k - 2) (by omega)
          have c2 := hc (k - 7) (by omega)
          have c3 := hc (k - 16) (by omega)
          clear hc
          go_wp2_with fail
          go_quiet ((first | (go_at_call_of 27 (Value.int .u64 7); exact quiet_left (turn7 _ _)) | (go_at_call_of 27 (Value.int .u64 18); exact quiet_left (turn18 _ _))))
          obtain ⟨n1, rfl⟩ : ∃ n1 : Nat, n1 = nq := ⟨_, rfl⟩
          go_wp2_with fail
          go_quiet ((first | (go_at_call_of 27 (Value.int .u64 17); exact quiet_add_left (turn17 _ _)) | (go_at_call_of 27 (Value.int .u64 19); exact quiet_add_left (turn19 _ _))))
          go_wp2_with fail
          have e7 : IntKind.i64.wrap ((k : Int) - 7) = (k : Int) - 7 := IntWalk.i64_in _ (by omega)
          have e16 : IntKind.i64.wrap ((k : Int) - 16) = (k : Int) - 16 := IntWalk.i64_in _ (by omega)
          have p7 : (7 : Int) ≤ (k : Int) := by omega
          have p16 : (16 : Int) ≤ (k : Int) := by omega
          have l7 : (k : Int) - 7 < (k : Int) := by omega
          have l16 : (k : Int) - 16 < (k : Int) := by omega
          have t7 : ((k : Int) - 7).toNat = k - 7 := by omega
          have t16 : ((k : Int) - 16).toNat = k - 16 := by omega
          go_region_law ((refine step_append_any _ rfl (.tmp 77) (.tmp 93) 55 rfl w.heap.size 43 i0 _ 1 4 Tryd.underlying55 hi0 hz0 hz1 hz2 rfl (by omega) (.slice (some ⟨g, 0, none⟩) k cap) k ((Sp.wl bs k).map U32) (by simp [Act.eval, Act.put]) (ownsRow_heap (hown.alloc (.cells #[U32 (Sp.nextW (Sp.wl bs k) k)] 43)) rfl) (wr.heap.size + 1) (some ⟨wr.heap.size, 0, none⟩) 1 1 [U32 (Sp.nextW (Sp.wl bs k) k)] (by simp [Act.eval, Act.put]) (Reads_heap (reads_one wr (Sp.nextW (Sp.wl bs k) k) 43) rfl) (U32_one [_]) (by simp only [maxLen]; omega) (by omega) (by have := hbel.size; simp; omega) ?_; intro v2 w2 hown2 hg2 hat2))
          all_goals
            have hbel2 : Below w.heap.size w w2 := own_below (ownsRow_heap (w' := wr.drewN (n1 + nq + 1)) hown rfl) (below_drewN hbel _) _ hg2
            obtain ⟨g2, cap2, hv2, _, _⟩ := hown2.form (by omega)
            rw [hv2] at hown2
            rw [hv2]
            clear hg2 hat2 c0 c1 c2 c3 e7 e16 t7 t16 hown
            go_wp2
            go_roundw
            case rel => exact ⟨k + 1, g2, cap2, by omega, by omega, by go_num, rfl, by rw [wl_later bs k (by omega), List.map_append]; exact hown2, hbel2⟩
            case measure => simp [intOf]; omega
        · obtain rfl : k = 64 := by omega
          go_wp2
          go_ret
          exact ⟨g, cap, rfl, hown, hbel⟩
end Go.Proofs.YtljghknojbpccaaDoor
