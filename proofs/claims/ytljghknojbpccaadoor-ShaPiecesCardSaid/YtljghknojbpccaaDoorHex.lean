/-
  THE WALK OF sha.Hex; bytes as a string; bytes compared.
-/
import Derived.Test.YtljghknojbpccaaDoorRefS
import Derived.Stop.BytesEq
import Derived.Lib.SlBytesConst
namespace Go.Proofs.YtljghknojbpccaaDoor
set_option linter.unusedSimpArgs false
set_option linter.unusedVariables false
open Go.RowKit

namespace Sp
def alpha : List UInt8 := [48, 49, 50, 51, 52, 53, 54, 55, 56, 57, 97, 98, 99, 100, 101, 102]
def hex2 (x : UInt8) : List UInt8 := [alpha.getD (x >>> 4).toNat 0, alpha.getD (x &&& 15).toNat 0]
def hexL (l : List UInt8) : List UInt8 := l.flatMap hex2
theorem hexL_length (l : List UInt8) : (hexL l).length = 2 * l.length := by
  induction l with
  | nil => rfl
  | cons x l ih => simp only [hexL, List.flatMap_cons, List.length_append, List.length_cons] at ih ⊢; rw [ih]; simp [hex2]; omega
theorem hexL_snoc (l : List UInt8) (x : UInt8) : hexL (l ++ [x]) = hexL l ++ hex2 x := by simp [hexL]
end Sp

abbrev alphaV : Value := .string { data := #[48, 49, 50, 51, 52, 53, 54, 55, 56, 57, 97, 98, 99, 100, 101, 102] }
theorem index_alphaN (w : World) : (k : Nat) → k < 16 → (Instr.index 9 alphaV (U8 (UInt8.ofNat k))).run Tryd.prog w = .ok (U8 (Sp.alpha.getD k 0)) w
  | 0, _ => by kernel_rfl
  | 1, _ => by kernel_rfl
  | 2, _ => by kernel_rfl
  | 3, _ => by kernel_rfl
  | 4, _ => by kernel_rfl
  | 5, _ => by kernel_rfl
  | 6, _ => by kernel_rfl
  | 7, _ => by kernel_rfl
  | 8, _ => by kernel_rfl
  | 9, _ => by kernel_rfl
  | 10, _ => by kernel_rfl
  | 11, _ => by kernel_rfl
  | 12, _ => by kernel_rfl
  | 13, _ => by kernel_rfl
  | 14, _ => by kernel_rfl
  | 15, _ => by kernel_rfl
  | k + 16, h => absurd h (by omega)
theorem index_alpha (y : UInt8) (h : y.toNat < 16) (w : World) : (Instr.index 9 alphaV (U8 y)).run Tryd.prog w = .ok (U8 (Sp.alpha.getD y.toNat 0)) w := by
  have e := index_alphaN w y.toNat h
  rw [UInt8.ofNat_toNat] at e
  exact e
theorem shr4_lt (x : UInt8) : (x >>> 4).toNat < 16 := by
  have := x.toNat_lt
  rw [UInt8.toNat_shiftRight, Nat.shiftRight_eq_div_pow]
  have e : (4 : UInt8).toNat % 8 = 4 := rfl
  rw [e]
  omega
theorem and15_lt (x : UInt8) : (x &&& 15).toNat < 16 := by
  rw [UInt8.toNat_and]
  exact Nat.lt_of_le_of_lt Nat.and_le_right (by decide)
@[go_sem high] theorem index_hi (x : UInt8) (w : World) : (Instr.index 9 alphaV (U8 (x >>> 4))).run Tryd.prog w = .ok (U8 (Sp.alpha.getD (x >>> 4).toNat 0)) w := index_alpha _ (shr4_lt x) w
@[go_sem high] theorem index_lo (x : UInt8) (w : World) : (Instr.index 9 alphaV (U8 (x &&& 15))).run Tryd.prog w = .ok (U8 (Sp.alpha.getD (x &&& 15).toNat 0)) w := index_alpha _ (and15_lt x) w
@[go_sem high] theorem shr8_4 (t : TypeId) (x : UInt8) : binOp .shr t (U8 x) (.int .u64 4) = pure (U8 (x >>> 4)) := by
  unfold U8 N8
  rw [binOp_shr, shift_shr .u8 .u64 _ _ (by omega) (by simp [IntKind.bits])]
  congr 2
  rw [UInt8.toNat_shiftRight, Nat.shiftRight_eq_div_pow]
  have e : (4 : UInt8).toNat % 8 = 4 := rfl
  rw [e]
  simp
@[go_sem high] theorem and8_15 (t : TypeId) (x : UInt8) : binOp .and t (U8 x) (.int .u8 15) = pure (U8 (x &&& 15)) := by
  unfold U8 N8
  rw [binOp_and, intBits_and]
  congr 2
  show IntKind.u8.wrap ((BitVec.ofInt 8 (x.toNat : Int) &&& BitVec.ofInt 8 (15 : Int)).toNat : Int) = _
  rw [show BitVec.ofInt 8 (x.toNat : Int) = x.toBitVec from by rw [BitVec.ofInt_natCast]; exact BitVec.ofNat_toNat .., show BitVec.ofInt 8 (15 : Int) = (15 : UInt8).toBitVec from by decide, wrap_u8]
  have h := (x &&& 15).toNat_lt
  show (((x &&& 15).toNat : Int) % 256) = ((x &&& 15).toNat : Int)
  omega

theorem index24 (l : List UInt8) (k : Nat) (hl : l.length = 32) (h : k < 32) (w : World) : (Instr.index 24 (.agg (bytesV l)) (.int .i64 (k : Int))).run Tryd.prog w = .ok (U8 (l.getD k 0)) w := by
  have h5 : ∀ W : World, (sizeOf 5).run Tryd.prog W = .ok 1 W := fun _ => by kernel_rfl
  have ha : ∀ W : World, (isAgg 5).run Tryd.prog W = .ok false W := fun _ => by kernel_rfl
  have hu := run_underlying Tryd.underlying24 w
  unfold Instr.index
  simp only [asIntOf, Sem.run_bind, Sem.run_pure, Result.andThen_ok, hu]
  rw [if_pos ⟨by omega, by omega⟩]
  simp only [Sem.run_bind, h5, Result.andThen_ok, Int.toNat_natCast, Nat.mul_one, part, ha]
  have e : (bytesV l)[k]? = some (U8 (l.getD k 0)) := by simp [bytesV, List.getD, List.getElem?_eq_getElem (show k < l.length by omega)]
  simp [e]

theorem reads_new (W : World) (xs : List UInt8) (t : TypeId) (n : Nat) (hn : xs.length = n) : Reads (W.alloc (.cells (bytesV xs) t)) (W.heap.size + 1) 1 (some ⟨W.heap.size, 0, none⟩) n (xs.map U8) :=
  ⟨by simp [hn], fun _ => ⟨_, rfl, by simp, fun j u hu => by
    rw [Addr.add_lit, Nat.zero_add, (Blk.new W t (bytesV xs)).cell j]
    simpa [bytesV] using hu⟩⟩
/-- string(b), b a slice that is read -/
theorem conv_string (l : List UInt8) (ad : Addr) (cap : Nat) (w : World) (hc : ∀ j u, (l.map U8)[j]? = some u → w.cell? (ad.add j) = some u) (n : Nat) (hn : l.length = n) :
    (convert 22 9 (.slice (some ad) n cap)).run Tryd.prog w = .ok (.string ⟨l.toArray⟩) w := by
  subst hn
  rw [run_convert_bytes_string w 22 9 5 _ _ _ Tryd.underlying22 (by kernel_rfl) (by kernel_rfl)]
  have hm : (l.map U8) = (l.map N8).map (Value.int .u8) := by simp
  have hl := run_loadCells_list (P := Tryd.prog) w ad (l.map U8) (fun j v hj => hc j v hj)
  rw [List.length_map] at hl
  rw [run_bytesToString w ad l.length cap (l.map N8) (by rw [hl, hm]), foldl_push_bytes]
  congr 2
  have e : List.map (fun n : Int => UInt8.ofNat n.toNat) (l.map N8) = l := by
    rw [List.map_map]
    conv => rhs; rw [← List.map_id l]
    apply List.map_congr_left
    intro x _
    simp [N8]
  rw [e]
  simp [ByteArray.empty, ByteArray.emptyWithCapacity]
  rfl

set_option maxRecDepth 100000 in
set_option maxHeartbeats 1000000 in
theorem hex_any (l : List UInt8) (hl : l.length = 32) (w : World) : Calls Tryd.prog 19 #[.agg (bytesV l)] w fun e w' => e = .returned (.string ⟨(Sp.hexL l).toArray⟩) ∧ Below w.heap.size w w' := by
  obtain ⟨i0, hi0, hz0, hz1, hz2⟩ := info_parts info5'
  have hds : (bytesV l).size = 32 := by rw [bytesV_size]; exact hl
  have hbB := Blk.at0 w 24 (bytesV l) _ rfl
  have hmk : ∀ W : World, (Instr.makeSlice 22 (.int .i64 0) (.int .i64 64)).run Tryd.prog W = .ok (.slice (some ⟨W.heap.size, 0, none⟩) 0 64) (W.alloc (.cells (bytesV (List.replicate 64 0)) 5)) := fun _ => by kernel_rfl
  have hown0 := World.ownsRow_made (base := w.heap.size) (e := 5) (size := 1) (w.alloc (.cells (bytesV l) 24)) (bytesV (List.replicate 64 0)) 64 (by simp) (by simp [maxLen]) (by rw [bytesV_size]; rfl)
  have hbel0 := ((Below.refl w.heap.size w).alloc (Nat.le_refl _) (.cells (bytesV l) 24)).alloc (by simp) (.cells (bytesV (List.replicate 64 0)) 5)
  go_enter Tryd.func19, Tryd.ntmps19
  go_wp2_with (refine load24 rfl _ rfl w.heap.size rfl (bytesV l) (hbB.alloc _) hds ?_)
  rw [show (w.alloc (.cells (bytesV l) 24)).heap.size = w.heap.size + 1 by simp] at hown0
  clear hmk hbB
  go_loopw [3, 8] (fun v i wr => ∃ k N g cap : Nat, k ≤ 32 ∧ N = 2 * k ∧ i = .int .i64 k ∧ v = .slice (some ⟨g, 0, none⟩) N cap ∧ wr.ownsRow w.heap.size 5 1 (.slice (some ⟨g, 0, none⟩) N cap) N ((Sp.hexL (l.take k)).map U8) ∧ Below w.heap.size w wr) (fun _ i _ => 32 - (intOf i).toNat)
  case atStart => exact ⟨0, 0, _, _, by omega, rfl, rfl, rfl, hown0, hbel0⟩
  case round =>
    clear hown0 hbel0
    obtain ⟨k, N, g, cap, hk, hN, rfl, rfl, hown, hbel⟩ := hrel
    have HN := Lib.hid hN
    have hN2 : N ≤ 64 := by omega
    clear hN
    by_cases hlt : k < 32
    · have hix := fun W => index24 l k hl hlt W
      have ht : l.take (k + 1) = l.take k ++ [l.getD k 0] := by
        rw [List.take_add_one, List.getD, List.getElem?_eq_getElem (show k < l.length by omega)]; rfl
      generalize l.getD k 0 = x at hix ht
      have HT := Lib.hid ht
      clear ht
      go_wp2_with fail
      go_region_law ((refine step_append_any _ rfl (.tmp 11) (.tmp 18) 22 rfl w.heap.size 5 i0 _ 1 1 Tryd.underlying22 hi0 hz0 hz1 hz2 rfl (by omega) (.slice (some ⟨g, 0, none⟩) N cap) N ((Sp.hexL (l.take k)).map U8) (by simp [Act.eval, Act.put]) (ownsRow_heap (hown.alloc (.cells (bytesV (Sp.hex2 x)) 5)) rfl) (wr.heap.size + 1) (some ⟨wr.heap.size, 0, none⟩) 2 2 ((Sp.hex2 x).map U8) (by simp [Act.eval, Act.put]) (Reads_heap (reads_new wr (Sp.hex2 x) 5 2 rfl) rfl) (U8_one _) (by simp only [maxLen]; omega) (by omega) (by have := hbel.size; simp; omega) ?_; intro v2 w2 hown2 hg2 hat2))
      all_goals
        have hbel2 : Below w.heap.size w w2 := own_below hown hbel (.cells (bytesV (Sp.hex2 x)) 5) ⟨hg2.os, hg2.tape, hg2.output, by have := hg2.size; simp at this ⊢; omega, fun i hi hne => hg2.block i (by simp at hi ⊢; omega) hne⟩
        obtain ⟨g2, cap2, hv2, _, _⟩ := hown2.form (by omega)
        rw [hv2] at hown2
        rw [hv2]
        rw [← List.map_append, ← Sp.hexL_snoc, ← HT.out] at hown2
        clear hg2 hat2 hown hix hv2
        go_wp2
        go_roundw
        case rel => exact ⟨k + 1, N + 2, g2, cap2, by omega, by have := HN.out; omega, by go_num, rfl, hown2, hbel2⟩
        case measure => simp [intOf]; omega
    · obtain rfl : k = 32 := by omega
      have hN := HN.out
      subst hN
      rw [List.take_of_length_le (by omega)] at hown
      have hl64 : (Sp.hexL l).length = 64 := by rw [Sp.hexL_length, hl]
      have hcs : ∀ j u, ((Sp.hexL l).map U8)[j]? = some u → wr.cell? ((⟨g, 0, none⟩ : Addr).add j) = some u := hown.cells rfl
      have hcv := conv_string (Sp.hexL l) ⟨g, 0, none⟩ cap wr hcs 64 hl64
      clear hlt hk hcs
      go_wp2
      go_ret
      exact ⟨rfl, hbel⟩
end Go.Proofs.YtljghknojbpccaaDoor
